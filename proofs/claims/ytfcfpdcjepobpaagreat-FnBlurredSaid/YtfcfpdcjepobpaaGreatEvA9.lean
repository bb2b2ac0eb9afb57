import Derived.Test.YtfcfpdcjepobpaaGreatEvA8
import Derived.Test.YtfcfpdcjepobpaaGreatEvA7
import Derived.Shelf.SlSortCmp.Insertion
import Derived.Lib.Bytealg
import Derived.Shelf.Small.Bits
import Derived.WalkKit
import Derived.Test.YtfcfpdcjepobpaaGreatProg
import Derived.Maps.GroupsBeside
import Derived.ChangeSlices
import Derived.OwnWalk
import Derived.Deep.RegionWith
import Derived.Deep.Cut
import Derived.Deep.LoopGhost
import Derived.Sort.OwnSorted
set_option linter.unusedSimpArgs false
set_option linter.unusedVariables false
set_option linter.unnecessarySimpa false
noncomputable section
namespace Go.Ev

def namesT (f:Int→Option ByteArray):Nat→Option (List ByteArray)
 | 0=>some []
 | k+1=>(namesT f k).bind fun l=>(f k).bind fun x=>some (l ++ [x])
theorem zni {f:Int→Option ByteArray}:∀ {k:Nat} {l:List ByteArray},namesT f k=some l→l.length=k∧∀ i,i < k→f i=some (l.getD i ByteArray.empty)
 | 0,l,h=>by cases h;exact ⟨rfl,fun i hi=>absurd hi (Nat.not_lt_zero i)⟩
 | k+1,l,h=>by
  rw [namesT,Option.bind_eq_some_iff] at h
  obtain ⟨l0,h0,h⟩:=h
  obtain ⟨h1,h2⟩:=zni h0
  rw [Option.bind_eq_some_iff] at h
  obtain ⟨x,hx,h⟩:=h
  cases h
  refine ⟨by simp [h1],fun i hi=>?_⟩
  rcases Nat.lt_or_eq_of_le (Nat.le_of_lt_succ hi) with hlt | rfl
  ·rw [h2 i hlt,List.getD_eq_getElem?_getD,List.getD_eq_getElem?_getD,List.getElem?_append_left (by omega)]
  ·rw [hx,List.getD_eq_getElem?_getD,List.getElem?_append_right (by omega)]
   simp [h1]
def few (l:List ByteArray):Bool:=decide (l.length≤12) && l.all fun s=>decide (s.size≤1000000)
theorem few_ok {l:List ByteArray} (h:few l=true):l.length≤12∧∀ s∈l,s.size≤1000000:=by
 unfold few at h
 rw [Bool.and_eq_true,List.all_eq_true] at h
 exact ⟨by simpa using h.1,fun s hs=>by simpa using h.2 s hs⟩
def grpO (l:List ByteArray):List (List Int):=(sortN (dstN l)).map fun k=>posN k l 0
def groupsT (nm:TStructure→Int→Option ByteArray) (s:TStructure):Option (List (List Int)):=(namesT (nm s) s.nodes.length).bind fun l=>if few l then some (grpO l) else none
def preT (nm:TStructure→Int→Option ByteArray) (s:TStructure):Option (List (ByteArray × List Int) × List ByteArray):=(namesT (nm s) s.nodes.length).bind fun l=>if few l && decide (1≤l.length) then some (grpN l,sortN (dstN l)) else none

open Classical in
def specS {X R:Type} [Args X] [Enc R] (F:X→Option R):List AV→Option AV:=fun az=>if h:∃ x,Args.args x=az then (F (Classical.choose h)).map (av .shr) else none
theorem specS_eq {X R:Type} [Args X] [Enc R] {F:X→Option R} {x:X} {y:R} (h:F x=some y):specS F (Args.args x)=some (av .shr y):=by
 unfold specS
 have hx:∃ z,Args.args z=Args.args x:=⟨x,rfl⟩
 rw [dif_pos hx,Args.inj _ _ (Classical.choose_spec hx),h]
 rfl

theorem encL_rows (xs:List (List Int)):encL xs=xs.map fun zs=>D.sl zs.length (encL zs):=by
 induction xs with
 | nil=>rfl
 | cons x xs ih=>rw [zbj,ih];rfl
theorem rd_any {w:World} {G:Gh} {o:Ow} {p:List Nat} {n:Nat} {cs:List D} {v:Value} (h:RD w G o .shr p (.sl n cs) v):∃ a c,v=.slice a n c:=by
 rw [RD] at h
 rcases h with ⟨_,rfl,a,c,rfl,_⟩|⟨_,_,b,off,c,rfl,_⟩
 ·exact ⟨a,c,rfl⟩
 ·exact ⟨_,c,rfl⟩
end Go.Ev
namespace Go.Proofs
open Go.Ev

theorem pc_l17 {F61:List AV→Option AV} {nm:TStructure→Int→Option ByteArray} (h61:PC Tryz.prog 27 F61) (hF:∀ s i x,nm s i=some x→F61 [av .shr s,av .shr i]=some (.one (.s (.string x)))):PC Tryz.prog 59 (specS (X:=TStructure × Unit) fun x=>groupsT nm x.1):=by
 refine ⟨⟨Tryz.f59,Tryz.func59,by kernel_rfl,by kernel_rfl⟩,fun args r hr G w vals hflat hlive hage hA=>?_⟩
 unfold specS at hr
 split at hr
 rotate_left
 ·cases hr
 rename_i hx
 obtain ⟨y,hy,rfl⟩:=Option.map_eq_some_iff.1 hr
 have hs:=Classical.choose_spec hx
 generalize Classical.choose hx=x at hy hs
 subst hs
 obtain ⟨s,u⟩:=x
 cases u
 have hy:groupsT nm s=some y:=hy
 have hA:ArgsOK w G [av .shr s] vals:=hA
 clear hr hx
 unfold groupsT at hy
 rw [Option.bind_eq_some_iff] at hy
 obtain ⟨names,hnm,hy⟩:=hy
 split at hy
 rotate_left
 ·cases hy
 rename_i hfew
 cases hy
 obtain ⟨hlen,hcall⟩:=zni hnm
 obtain ⟨h12,hsz⟩:=few_ok hfew
 obtain ⟨v0,hv0,hr0⟩:=hA.2 0 _ rfl
 have hr0':=hr0 0 0
 obtain ⟨vs,rfl,hl,hcs⟩:=hr0'
 obtain ⟨x0,hx0,r0⟩:=hcs 0 _ rfl
 obtain ⟨x1,hx1,r1⟩:=hcs 1 _ rfl
 obtain ⟨sa,scap,rfl⟩:=rd_any r0
 have hvs:vs = #[.slice sa s.nodes.length scap,x1]:=by
  apply Array.ext_getElem?
  intro i
  match i with
  | 0=>simpa using hx0
  | 1=>simpa using hx1
  | i+2 =>
   rw [Array.getElem?_eq_none (by have : vs.size = 2 := by simpa using hl
                                  omega)]
   rfl
 have hvals:vals = #[.agg vs]:=by
  apply Array.ext_getElem?
  intro i
  match i with
  | 0=>simpa using hv0
  | i+1 =>
   rw [Array.getElem?_eq_none (by have : vals.size = 1 := by simpa using hA.1
                                  omega)]
   rfl
 subst hvals
 subst hvs
 have key:=walk32 (W0:=w) (n:=s.nodes.length) (scap:=scap) (names:=names) (c1:=x1) (sa:=sa) hlen (by omega) hsz
  (fun i hi wr hE=>h61.ext (args:=[av .shr s,av .shr (i:Int)]) (hF s i _ (hcall i hi)) (G:=G) rfl rfl (fun j x hj=>by
   match j with
   | 0=>cases hj;exact ⟨_,rfl,_,rfl,rfl,fun j c hj=>by
    match j with
    | 0=>cases hj;exact ⟨_,rfl,zjl (G:=G) rfl (fun b hb=>⟨hb,Nat.le_refl _⟩) r0⟩
    | 1=>cases hj;exact ⟨_,rfl,zjl (G:=G) rfl (fun b hb=>⟨hb,Nat.le_refl _⟩) r1⟩
    | j+2=>cases hj⟩
   | 1=>cases hj;exact ⟨_,rfl,rfl,rfl⟩
   | j+2=>cases hj) hE)
 refine key.mono fun e w' he=>?_
 obtain ⟨m,g3,c3,g4,c4,gs,rfl,hG⟩:=he
 have hsz1:w.heap.size≤(w.alloc (.cells #[.slice sa s.nodes.length scap,x1] 32)).heap.size:=by simp
 refine pc_post hflat hG.ext fun hnone huse=>?_
 show RD _ _ _ .shr [] (.sl (grpO names).length (encL (grpO names))) _
 have hm:(grpO names).length=m:=by unfold grpO;rw [List.length_map];exact hG.len
 have hgl:gs.length=m:=by rw [hG.gi.len,hG.len]
 rw [RD]
 by_cases h0:grpO names=[]
 ·rw [h0] at hm
  have hm:0=m:=hm
  subst hm
  rw [h0]
  exact .inl ⟨rfl,rfl,_,_,rfl,by simp [Md.isOwn]⟩
 ·have hO:=hG.rows.all ⟨g4,c4,30,gs.map R.v⟩ (by simp)
  have hlt:=hG.rows.lt (r:=⟨g4,c4,30,gs.map R.v⟩) (by simp)
  have hlt1:w.heap.size≤g4:=Nat.le_trans hsz1 hlt.1
  have hcl:m≤c4:=by
   have h1:=(hG.rows.len (r:=⟨g4,c4,30,gs.map R.v⟩) (by simp)).1
   simp only [List.length_map] at h1
   rw [← hgl]
   exact h1
  have hel:(encL (grpO names)).length=m:=by
   rw [← hm]
   rw [encL_rows,List.length_map]
  refine .inr ⟨fun h=>h0 (List.length_eq_zero_iff.1 (by rw [hm,← hel,h];rfl)),List.length_pos_iff.2 h0,g4,0,c4,by rw [hm],?_,⟨hnone g4 hlt1,?_⟩,zlb fun j d hd=>?_⟩
  ·rw [hm];exact hcl
  ·rw [huse g4 hlt1,hel]
   rcases hO.2 with ⟨h,_⟩|⟨g,cap,cur,h,_,hh,h1,_,h3,_⟩
   ·cases h
   ·cases h
    unfold fillU
    rw [hh]
    show 0+m≤cur.size
    have h3:cur.size=c4 * 1:=h3
    omega
  ·have hj:j < m:=by rw [← hel];exact (List.getElem?_eq_some_iff.1 hd).1
   obtain ⟨gj,hgj⟩:∃ r,gs[j]?=some r:=⟨_,List.getElem?_eq_getElem (by omega)⟩
   obtain ⟨kj,hkj⟩:∃ r,(sortN (dstN names))[j]?=some r:=⟨_,List.getElem?_eq_getElem (by rw [hG.len];exact hj)⟩
   obtain ⟨he,hx⟩:=hG.gi.at hgj hkj
   have hdj:d=.sl (posN kj names 0).length (encL (posN kj names 0)):=by
    have h2:(encL (grpO names))[j]?=some (.sl (posN kj names 0).length (encL (posN kj names 0))):=by
     rw [encL_rows,List.getElem?_map]
     unfold grpO
     rw [List.getElem?_map,hkj]
     rfl
    rw [h2] at hd
    exact (Option.some.inj hd).symm
   subst hdj
   refine ⟨gj.v,by simpa using hG.rows.cell (r:=⟨g4,c4,30,gs.map R.v⟩) (by simp) (by rw [List.getElem?_map,hgj];rfl),?_⟩
   have hR:=hG.rows.all gj (by simp [List.mem_of_getElem? hgj])
   rw [he,hx] at hR
   rw [encL_i]
   have:=zli (G:=G.more w.heap.size (fillU w')) (o:=.ret) (p:=[] ++ [0+j]) (w:=w') (v:=gj.v) (vs:=(posN kj names 0).map (Value.int .i64)) (base:=w.heap.size) (e:=3) (fun v hv=>by obtain ⟨z,_,rfl⟩:=List.mem_map.1 hv;rfl) ⟨hR.1,hR.2.imp id fun ⟨g,cap,cur,q1,q2,q3⟩=>⟨g,cap,cur,q1,Nat.le_trans hsz1 q2,q3⟩⟩ hnone (fun g hg _=>huse g hg)
   simpa using this
end Go.Proofs


namespace Go.Proofs
open Go.Shelf Go.RowKit Go.Lib Go.Sort Go.Ev

def Tryz.insL_ren:Go.Shelf.Ren:=⟨fun | 20=>127 | n=>n,fun | 24=>9 | 22=>71 | 3=>3 | 25=>73 | 4=>4 | 0=>0 | n=>n,fun | n=>n⟩
theorem Tryz.insL:Go.Proofs.SlLaysF.n20 Tryz.prog Tryz.insL_ren:={
 mixed:=by kernel_rfl
 f20:=⟨Tryz.f127.name,by decide,Tryz.func127.trans (congrArg some (by kernel_rfl))⟩
 t0:=Tryz.underlying0
 a0:=Tryz.isAgg0
 z0:=Tryz.sizeOf0
 v0:=Tryz.zeroValue0
 t3:=Tryz.underlying3
 a3:=Tryz.isAgg3
 z3:=Tryz.sizeOf3
 v3:=Tryz.zeroValue3
 t4:=Tryz.underlying4
 a4:=Tryz.isAgg4
 z4:=Tryz.sizeOf4
 v4:=Tryz.zeroValue4
 t22:=Tryz.underlying71
 a22:=Tryz.isAgg71
 z22:=Tryz.sizeOf71
 v22:=Tryz.zeroValue71
 a24:=Tryz.isAgg9
 z24:=Tryz.sizeOf9
 t25:=Tryz.underlying73
 a25:=Tryz.isAgg73
 z25:=Tryz.sizeOf73
 v25:=Tryz.zeroValue73 }

set_option maxHeartbeats 1000000 in
set_option maxRecDepth 100000 in
theorem cmp76 (a b:ByteArray) (w:World):Calls Tryz.prog 98 #[.string a,.string b] w fun e w'=>e=.returned (.int .i64 (cmpS a b))∧w'=w:=by
 unfold cmpS
 go_enter Tryz.func98,Tryz.ntmps98
 go_wp2
 rw [run_callFunc_extern Tryz.func137 (by kernel_rfl) (by kernel_rfl) (by kernel_rfl) (e:=Extern.BytealgCompare.compare) (by kernel_rfl),Lib.run_compareString]
 simp only [Result.andThen]
 rw [Oper.upon_value]
 go_wp2
 go_ret
 exact ⟨rfl,rfl⟩

set_option maxHeartbeats 1000000 in
set_option maxRecDepth 100000 in
theorem cmp40 (a b:ByteArray) (w:World):Calls Tryz.prog 51 #[.string a,.string b] w fun e w'=>e=.returned (.int .i64 (cmpS a b))∧w'=w:=by
 have h:=fun w=>cmp76 a b w
 generalize cmpS a b=r at h ⊢
 go_enter Tryz.func51,Tryz.ntmps51
 go_wp2_with (go_at_call 98;refine (h _).mono ?_;rintro e w' ⟨rfl,rfl⟩)
 go_ret
 exact ⟨rfl,rfl⟩

def Tryz.lenL_ren:Go.Shelf.Ren:=⟨fun | 125=>97 | 128=>135 | 129=>136 | n=>n,fun | 3=>3 | 4=>4 | 5=>5 | 9=>9 | 46=>110 | 51=>134 | 53=>136 | n=>n,fun | n=>n⟩
theorem Tryz.lenL:Go.Proofs.Lays.n125 Tryz.prog Tryz.lenL_ren:={
 mixed:=by kernel_rfl
 f125:=Tryz.func97.trans (congrArg some (by kernel_rfl))
 f128:=Tryz.func135.trans (congrArg some (by kernel_rfl))
 f129:=Tryz.func136.trans (congrArg some (by kernel_rfl))
 t3:=Tryz.underlying3
 a3:=Tryz.isAgg3
 z3:=Tryz.sizeOf3
 v3:=Tryz.zeroValue3
 t4:=Tryz.underlying4
 a4:=Tryz.isAgg4
 z4:=Tryz.sizeOf4
 v4:=Tryz.zeroValue4
 t5:=Tryz.underlying5
 a5:=Tryz.isAgg5
 z5:=Tryz.sizeOf5
 v5:=Tryz.zeroValue5
 t9:=Tryz.underlying9
 a9:=Tryz.isAgg9
 z9:=Tryz.sizeOf9
 v9:=Tryz.zeroValue9
 t46:=Tryz.underlying110
 a46:=Tryz.isAgg110
 z46:=Tryz.sizeOf110
 v46:=Tryz.zeroValue110
 t51:=Tryz.underlying134
 a51:=Tryz.isAgg134
 z51:=Tryz.sizeOf134
 v51:=Tryz.zeroValue134
 t53:=Tryz.underlying136
 a53:=Tryz.isAgg136
 z53:=Tryz.sizeOf136
 v53:=Tryz.zeroValue136 }
theorem len75 (n:Nat) (h:n≤12) (w:World):Calls Tryz.prog 97 #[.int .u64 n] w fun e w'=>(∃ l:Int,e=.returned (.int .i64 l))∧w'=w :=
 (Any.bits_Len Tryz.lenL (n:Int) w (by omega) (by omega)).mono fun e w' h=>⟨⟨_,h.1⟩,h.2⟩

set_option maxHeartbeats 4000000 in
set_option maxRecDepth 1000000 in
theorem pdq74 (blk cap:Nat) (lim:Int) (d:Array ByteArray) (w:World) (hH:Holds Value.string w blk 0 d) (h12:d.size≤12) :
 Calls Tryz.prog 96 #[.slice (some ⟨blk,0,none⟩) d.size cap,.int .i64 0,.int .i64 d.size,.int .i64 lim,.func (.func 51) #[] #[]] w fun e w'=>e=.returned (.tuple #[])∧∃ n,w'=(putRow Value.string w blk 0 (Sort.insertionSort (ltOf cmpS) d 0 d.size)).drewN n:=by
 have hi:Calls Tryz.prog 127 #[.slice (some ⟨blk,0,none⟩) d.size cap,.int .i64 (0:Nat),.int .i64 d.size,.func (.func 51) #[] #[]] w fun e w'=>e=.returned (.tuple #[])∧∃ n,w'=(putRow Value.string w blk 0 (Sort.insertionSort (ltOf cmpS) d 0 d.size)).drewN n :=
  Any.insertionSortCmpFunc_one Tryz.insL Value.string (fun _=>rfl) cmpS 51 #[] blk 0 cap 0 d.size d w (enters_of Tryz.func51 (by kernel_rfl) rfl) (fun m os dk _ x y=>(cmp40 x y _).mono fun e w' h=>⟨h.1,0,h.2⟩) hH (Nat.zero_le _) (Nat.le_refl _) (by omega)
 have h12':(d.size:Int)≤12:=by omega
 have h13:(d.size:Int) - 0≤12:=by omega
 clear hH
 go_enter Tryz.func96,Tryz.ntmps96
 go_wp2
 refine wp_loop_rounds 1 ?_
 rw [rounds_succ]
 go_wp2_with (go_at_call 127;refine hi.mono ?_;rintro e w' ⟨rfl,n,rfl⟩)
 (try simp only [Exit.inBlock,Exit.then]);refine bodyPost_ret (results_none rfl _ _ _) rfl ?_
 exact ⟨rfl,n,rfl⟩

set_option maxHeartbeats 4000000 in
set_option maxRecDepth 1000000 in
theorem sort39 (blk cap:Nat) (d:Array ByteArray) (w:World) (hH:Holds Value.string w blk 0 d) (h12:d.size≤12) :
 Calls Tryz.prog 50 #[.slice (some ⟨blk,0,none⟩) d.size cap,.func (.func 51) #[] #[]] w fun e w'=>e=.returned (.tuple #[])∧∃ n,w'=(putRow Value.string w blk 0 (Sort.insertionSort (ltOf cmpS) d 0 d.size)).drewN n:=by
 have hp:=fun lim=>pdq74 blk cap lim d w hH h12
 have hl:=len75 d.size h12 w
 have wr:IntKind.u64.wrap (d.size:Int)=d.size:=by simp [IntKind.wrap,IntKind.bits,IntKind.signed];omega
 clear hH
 go_enter Tryz.func50,Tryz.ntmps50
 go_wp2_with (first | (go_at_call 97;refine hl.mono ?_;rintro e w' ⟨⟨l,rfl⟩,rfl⟩) | (go_at_call 96;refine (hp _).mono ?_;rintro e w' ⟨rfl,n,rfl⟩))
 go_end0
 exact ⟨rfl,n,rfl⟩
end Go.Proofs


namespace Go.Ev
open Go.Maps Go.ChangeShapes

def keyL (s:ByteArray):Lit:=.string s.data.toList
theorem keyL_inj {s t:ByteArray} (h:keyL s=keyL t):s=t:=by
 unfold keyL at h
 injection h with h
 obtain ⟨⟨a⟩⟩:=s
 obtain ⟨⟨b⟩⟩:=t
 simp at h
 rw [h]
theorem keyL_key (s:ByteArray):WideAt.IsKeyLit (keyL s):=by unfold keyL;trivial
def GDr:List ByteArray→DataW Unit
 | []=>.map []
 | x :: r=>(GDr r).put (keyL x) (.slice (lits .i64 (posN x (r.reverse ++ [x]) 0)) [])
def GD (l:List ByteArray):DataW Unit:=GDr l.reverse
theorem GD_snoc (l:List ByteArray) (x:ByteArray):GD (l ++ [x])=(GD l).put (keyL x) (.slice (lits .i64 (posN x (l ++ [x]) 0)) []):=by
 unfold GD
 rw [List.reverse_append,show [x].reverse ++ l.reverse=x :: l.reverse from rfl,GDr,List.reverse_reverse]
theorem GDr_map:∀ (l:List ByteArray),IsMap (GDr l)
 | []=>⟨_,rfl⟩
 | x :: l=>by
  obtain ⟨es,h⟩:=GDr_map l
  refine ⟨?_,?_⟩
  rotate_left
  ·rw [GDr,h];rfl
theorem GD_at (k:ByteArray) (l:List ByteArray):(GD l).atKey (keyL k) .nil=if k∈l then .slice (lits .i64 (posN k l 0)) [] else .nil:=by
 suffices h:∀ (r:List ByteArray),(GDr r).atKey (keyL k) .nil=if k∈r then .slice (lits .i64 (posN k r.reverse 0)) [] else .nil by
  have:=h l.reverse
  simpa [GD] using this
 intro r
 induction r with
 | nil=>rw [if_neg (List.not_mem_nil)];rfl
 | cons x r ih =>
  rw [GDr]
  by_cases hx:k=x
  ·subst hx
   rw [atKey_put_same (GDr_map r) (keyL_key k)]
   simp
  ·rw [atKey_put_other (fun h=>hx (keyL_inj h)),ih,List.reverse_cons,zhl,if_neg (fun h=>hx (Eq.symm h)),List.append_nil]
   simp [hx]

open Go.WideElems in
theorem groups_find {P:Program} {w:World} {t k E e:TypeId} {q:IntKind} {base b n:Nat} {D:DataW Unit} (ht:P.underlying t=some (.map k E)) (hk:P.underlying k=some .string) (hz:(zeroValue E).run P w=.ok (.slice none 0 0) w)
 (h:w.ownsGroups P k base e q b n D) (hn:n < maxLen) {s:ByteArray} (hs:s.size≤maxLen) {zs:List Int} (hat:D.atKey (keyL s) .nil=.slice (lits q zs) []) {arr:Array MapEntry} {clock:Nat} (hb:w.heap[b]?=some (.map arr clock)) :
 ∃ i x,Instr.findNow .string (.string s) arr.toList 0=some (some (i,x))∧w.ownsInts base e q x zs:=by
 have hkey:keyOf P k (.string s)=some (keyL s):=WideMaps.keyOf_string_mk hk hs
 obtain ⟨v,zs',hrun,hat',hoi,_,_⟩:=h.at (string_keyed hk) ht hz hn hkey
 have hz':zs'=zs∧v≠.slice none 0 0:=by
  rw [hat] at hat'
  rcases hoi.datum (H:=Unit) with ⟨h1,_⟩ | h1
  ·rw [h1] at hat';cases hat'
  ·constructor
   ·rw [h1] at hat'
    injection hat' with h2 _
    exact ((List.map_inj_right (f:=fun n=>(DataW.lit (.int q n):DataW Unit)) (l:=zs) (l':=zs') (fun a b hab=>by injection hab with h3;injection h3)).1 h2).symm
   ·rintro rfl
    cases h1
 obtain ⟨rfl,hv⟩:=hz'
 obtain ⟨es,ck,hb',F,_⟩:=h
 obtain ⟨rfl,rfl⟩:es=arr∧ck=clock:=by rw [hb'] at hb;simpa using hb
 have hks:∀ x∈es.toList,MapKept.IsKey .string x.key:=fun x hx=>by
  obtain ⟨y,hy⟩:=F.reads x hx
  obtain ⟨s',h1,_⟩:=WideMaps.string_of_keyOf hk (rd_key hy)
  rw [h1]
  trivial
 have hg:(getObj b).run P w=.ok (.map es ck) w:=by simp [getObj,Sem.run,hb]
 have hc:∀ em,(Instr.checkKey em 10000 k (.string s)).run P w=.ok () w:=fun em=>by
  show (Instr.checkKey em (9999+1) k (.string s)).run P w=.ok () w
  rw [Instr.checkKey]
  simp [run_underlying hk,Result.andThen]
 rcases MapKept.findNow_spec (d:=.string) (k:=.string s) trivial es.toList 0 hks with ⟨h1,_⟩|⟨j,e0,h1,h2,h3⟩
 ·exfalso
  have:(Instr.lookup t (.map (some b)) (.string s) false).run P w=.ok (.slice none 0 0) w:=by
   simp [Instr.lookup,run_underlying ht,hg,hc,Instr.findKey,run_underlying hk,h1,hz,Result.andThen]
  rw [hrun] at this
  injection this with h4
  exact hv h4
 ·have:(Instr.lookup t (.map (some b)) (.string s) false).run P w=.ok e0.val w:=by
   simp [Instr.lookup,run_underlying ht,hg,hc,Instr.findKey,run_underlying hk,h1,Result.andThen]
  rw [hrun] at this
  injection this with h4
  exact ⟨_,_,h1,by rw [← h4];exact hoi⟩
end Go.Ev


namespace Go.Ev

def takeS:Nat→Code→Code
 | n+1,.seq a b=>.seq a (takeS n b)
 | _,_=>.skip
def dropS:Nat→Code→Code
 | n+1,.seq _ b=>dropS n b
 | _,c=>c
theorem zpl {g:Cfg} {f N:Nat}:∀ {n:Nat} {c:Code},codeOK g f N c=true→codeOK g f N (takeS n c)=true∧codeOK g f N (dropS n c)=true
 | n+1,.seq a b,h=>by
  simp only [codeOK,Bool.and_eq_true] at h
  obtain ⟨h1,h2⟩:=zpl (n:=n) h.2
  exact ⟨by simp only [takeS,codeOK,h.1,h1,Bool.and_self],h2⟩
 | 0,c,h=>by
  rw [show takeS 0 c=.skip by cases c <;> rfl,show dropS 0 c=c by cases c <;> rfl]
  exact ⟨rfl,h⟩
 | n+1,.skip,h | n+1,.region ..,h | n+1,.cond ..,h | n+1,.block ..,h | n+1,.loop ..,h | n+1,.rangeFunc ..,h | n+1,.exit ..,h | n+1,.scope ..,h | n+1,.label ..,h | n+1,.goto ..,h | n+1,.ret,h | n+1,.refuse ..,h=>⟨rfl,h⟩

theorem evo_wp {g:Cfg} (hctx:CtxOK g) {d f N:Nat} {c:Code} (hc:codeOK g f N c=true) {σ:St} {out:Out} (h:evo g d f c σ=some out) {G:Gh} {w:World} {a:Act} (hS:Sim d N G σ a.tmps w) (hd:a.defers=[]):c.wp g.P (postC d N G w out) a w:=by
 unfold evo at h
 rw [zez (zfl g d f c σ)] at h
 obtain ⟨n,hn⟩:=h
 exact (sound g hctx n).2 n (Nat.le_refl _) d f N c hc σ out hn G w a hS hd

theorem take_wp {g:Cfg} (hctx:CtxOK g) {d f N:Nat} {Q:Exit→Act→World→Prop}:∀ (n:Nat) (c:Code),codeOK g f N c=true→∀ σ out,evo g d f (takeS n c) σ=some out→∀ G w a,Sim d N G σ a.tmps w→a.defers=[] →
 (∀ σ1 G1 a1 w1,out=.norm σ1→Sim d N G1 σ1 a1.tmps w1→a1.defers=[]→Frm d G w G1 w1→(dropS n c).wp g.P Q a1 w1) →
 (∀ e a1 w1,e≠.normal→postC d N G w out e a1 w1→Q e a1 w1)→c.wp g.P Q a w:=by
 have base:∀ (n:Nat) (c:Code),takeS n c=.skip→dropS n c=c→∀ σ out,evo g d f (takeS n c) σ=some out→∀ G w a,Sim d N G σ a.tmps w→a.defers=[] →
  (∀ σ1 G1 a1 w1,out=.norm σ1→Sim d N G1 σ1 a1.tmps w1→a1.defers=[]→Frm d G w G1 w1→(dropS n c).wp g.P Q a1 w1)→c.wp g.P Q a w:=by
  intro n c h1 h2 σ out h G w a hS hd hN
  rw [h1,evo_skip] at h
  cases h
  have:=hN σ G a w rfl hS hd (Frm.refl _ _ _)
  rwa [h2] at this
 intro n
 induction n with
 | zero=>exact fun c _ σ out h G w a hS hd hN _=>base 0 c (by cases c <;> rfl) (by cases c <;> rfl) σ out h G w a hS hd hN
 | succ n ih =>
  intro c hc σ out h G w a hS hd hN hE
  cases c with
  | seq x y =>
   simp only [codeOK,Bool.and_eq_true] at hc
   rw [takeS,evo_seq,Option.bind_eq_some_iff] at h
   obtain ⟨o,ho,h⟩:=h
   refine wp_seq (wp_mono (evo_wp hctx hc.1 ho hS hd) fun e a' w' hp=>?_)
   cases e with
   | normal =>
    obtain ⟨h0,σ',G',rfl,hS',hF'⟩:=hp
    refine ih y hc.2 σ' out h G' w' a' hS' h0 (fun σ1 G1 a1 w1 h1 h2 h3 h4=>hN σ1 G1 a1 w1 h1 h2 h3 (hF'.trans h4)) fun e a1 w1 he hp=>hE e a1 w1 he (postC.trans hF' e a1 w1 hp)
   | exit id =>
    obtain ⟨h0,σ',G',rfl,hS',hF'⟩:=hp
    simp only [Out.then,Option.some.injEq] at h
    subst h
    exact hE _ _ _ (by simp) ⟨h0,σ',G',rfl,hS',hF'⟩
   | ret =>
    obtain ⟨h0,σ',G',rfl,hS',hF'⟩:=hp
    simp only [Out.then,Option.some.injEq] at h
    subst h
    exact hE _ _ _ (by simp) ⟨h0,σ',G',rfl,hS',hF'⟩
   | goto l=>exact hp.elim
   | panic c=>exact hp.elim
   | outgrown=>exact hp.elim
  | _=>exact base _ _ rfl rfl σ out h G w a hS hd hN

def PreOK (P:Program) (d N:Nat) (c rest:Code) (F:St→Option St):Prop:=∀ σ σ',F σ=some σ'→∀ G w (a:Act),Sim d N G σ a.tmps w→a.defers=[]→∀ Q:Exit→Act→World→Prop,
 (∀ G1 (a1:Act) w1,Sim d N G1 σ' a1.tmps w1→a1.defers=[]→Frm d G w G1 w1→rest.wp P Q a1 w1)→c.wp P Q a w

def callP (g:Cfg) (f:Nat) (c:Code) (l:List ResultVar) (n1 n2:Nat) (F:St→Option St) (args:List AV):Option (AV × Mem) :=
 finK g.P 0 l ((lookK (f,atEnd) g.gho).getD []) (evk g (0+1) f (takeS n1 c) [.pre F,.code (dropS n2 (dropS n1 c))] { env:=fun t=>(args[t]?).getD .dead,mem:=mem0 })

theorem fin_done {g:Cfg} {f:Nat} {fn:Func} {out:Out} {r:AV} {m:Mem} (h:finK g.P 0 fn.results.toList ((lookK (f,atEnd) g.gho).getD []) (some out)=some (r,m)) :
 ∃ σ' σe r0,out.done=some σ'∧ghoAt g 1 f atEnd σ'=some σe∧retVal g.P 1 fn σe=some r0∧r=r0.kill (fun k=>decide (0 < k.1))∧m=memKill (fun k=>decide (0 < k.1)) σe.mem:=by
 have hgho:∀ σ,ghoAt g 1 f atEnd σ=ghoL 1 ((lookK (f,atEnd) g.gho).getD []) σ:=by
  intro σ
  unfold ghoAt
  cases lookK (f,atEnd) g.gho <;> rfl
 have key:∀ σ,endK g.P 0 fn.results.toList (ghoL 1 ((lookK (f,atEnd) g.gho).getD []) σ)=some (r,m)→∃ σe r0,ghoAt g 1 f atEnd σ=some σe∧retVal g.P 1 fn σe=some r0∧r=r0.kill (fun k=>decide (0 < k.1))∧m=memKill (fun k=>decide (0 < k.1)) σe.mem:=by
  intro σ h
  rw [hgho]
  cases hg:ghoL 1 ((lookK (f,atEnd) g.gho).getD []) σ with
  | none=>rw [hg] at h;cases h
  | some σe =>
   rw [hg] at h
   rw [end_some] at h
   cases hr:retR g.P (0+1) fn.results.toList σe with
   | none=>rw [hr] at h;cases h
   | some r0 =>
    rw [hr,val_some,Option.some.injEq,Prod.mk.injEq] at h
    exact ⟨σe,r0,rfl,hr,h.1.symm,h.2.symm⟩
 cases out with
 | norm σ=>obtain ⟨σe,r0,h1⟩:=key σ h;exact ⟨σ,σe,r0,rfl,h1⟩
 | ret σ=>obtain ⟨σe,r0,h1⟩:=key σ h;exact ⟨σ,σe,r0,rfl,h1⟩
 | exit id σ=>cases h

theorem PC.of_pre {g:Cfg} (hctx:CtxOK g) {f n1 n2:Nat} {fn:Func} {c:Code} {F:List AV→Option AV} {F0:St→Option St} (hf:g.P.funcs[f]?=some fn) (hb:fn.body=some c) (hok:fnOK g f fn=true)
 (hpre:PreOK g.P 1 fn.ntmps (dropS n1 c) (dropS n2 (dropS n1 c)) F0) (h:∀ args r,F args=some r→args.length≤fn.ntmps∧∃ m,callP g f c fn.results.toList n1 n2 F0 args=some (r,m)):PC g.P f F:=by
 unfold fnOK at hok
 rw [hb] at hok
 simp only [Bool.and_eq_true] at hok
 obtain ⟨⟨hcode,hname⟩,_⟩:=hok
 have hE:Enters g.P f:=⟨fn,hf,by rw [hb];rfl,by simpa using hname⟩
 refine ⟨hE,fun args r hF G w vals hflat hlive hage hA=>?_⟩
 obtain ⟨hlen,m,hm⟩:=h args r hF
 have hM:MemOK 0 G mem0 w:={
  cells:=fun k cs hk=>by cases hk
  live:=fun k=>⟨fun hh=>(hlive k hh).elim,fun hh=>by cases hh⟩
  dep:=fun k hk=>(hlive k hk).elim
  wf:=fun b t hb=>(hflat b t hb).2
  wfb:=fun b k hb=>by have:=(hflat b _ hb).1;cases this
  wfc:=fun b k p hb=>by have:=(hflat b _ hb).1;cases this
  age:=fun b=>Nat.le_of_eq (hage b)
  fut:=fun b _=>hage b
  aged:=fun b t hb=>by have:=(hflat b t hb).1;subst this;exact Nat.zero_le _ }
 have hCE:CallE g.P 0 f args mem0 m r:=by
  refine ⟨hE,fun G w vals hsz hargs hM1 hj1=>?_⟩
  refine calls_of_wp hf hb ?_
  have hS:Sim (0+1) fn.ntmps G { env:=fun t=>(args[t]?).getD .dead,mem:=mem0 } (vals ++ Array.replicate (fn.ntmps - vals.size) undef) w :=
   hM1.sim (by rw [Array.size_append,Array.size_replicate,hsz];omega) (fun t=>zjx hargs t) hj1
  unfold callP evk at hm
  have fin:∀ (out:Out) (G1:Gh) (w1:World),Frm 1 G w G1 w1→finK g.P 0 fn.results.toList ((lookK (f,atEnd) g.gho).getD []) (some out)=some (r,m)→∀ e a1 w2,postC 1 fn.ntmps G1 w1 out e a1 w2 →
   bodyPost g.P fn (fun e w'=>∃ v G',e=.returned v∧RA w' G' .ret r v∧MemOK 0 G' m w'∧Frm (0+1) G w G' w') e a1 w2:=by
   intro out G1 w1 hF1 hfin
   obtain ⟨σ',σe,r0,hdone,hσe,hr0,rfl,rfl⟩:=fin_done hfin
   refine zna hdone fun σ2 G2 tm w2 h2 hS2 hF2=>?_
   rw [hdone] at h2
   cases h2
   obtain ⟨Ge,hSe,hFe⟩:=zks hS2 hσe
   obtain ⟨v,G3,hrun,hRA,hM3,hF3⟩:=hSe.returns (P:=g.P) hr0
   exact ⟨v,hrun,v,G3,rfl,hRA,hM3,((hF1.trans hF2).trans hFe).trans hF3⟩
  cases ho:evo g (0+1) f (takeS n1 c) { env:=fun t=>(args[t]?).getD .dead,mem:=mem0 } with
  | none=>rw [ho] at hm;cases hm
  | some o =>
   rw [ho,Option.bind_some] at hm
   refine take_wp hctx n1 c hcode _ o ho G w { tmps:=vals ++ Array.replicate (fn.ntmps - vals.size) undef,defers:=[] } hS rfl (fun σ1 G1 a1 w1 hn hS1 hd1 hF1=>?_) fun e a1 w1 he hp=>?_
   ·subst hn
    rw [runK] at hm
    cases hF0:F0 σ1 with
    | none=>rw [hF0] at hm;cases hm
    | some σ2 =>
     rw [hF0,Option.bind_some,r_norm,← zqp] at hm
     refine hpre σ1 σ2 hF0 G1 w1 a1 hS1 hd1 _ fun G2 a2 w2 hS2 hd2 hF2=>?_
     cases ho2:evo g (0+1) f (dropS n2 (dropS n1 c)) σ2 with
     | none=>rw [ho2] at hm;cases hm
     | some out =>
      rw [ho2] at hm
      exact wp_mono (evo_wp hctx (zpl (zpl hcode).2).2 ho2 hS2 hd2) (fin out G2 w2 (hF1.trans hF2) hm)
   ·cases o with
    | norm σ1 =>
     cases e with
     | normal=>exact absurd rfl he
     | exit id=>obtain ⟨_,_,_,h,_⟩:=hp;cases h
     | ret=>obtain ⟨_,_,_,h,_⟩:=hp;cases h
     | goto l=>exact hp.elim
     | panic c=>exact hp.elim
     | outgrown=>exact hp.elim
    | exit id σ1 =>
     rw [runK,runK,runK] at hm
     exact fin _ G w (Frm.refl _ _ _) hm e a1 w1 hp
    | ret σ1 =>
     rw [runK,runK,runK] at hm
     exact fin _ G w (Frm.refl _ _ _) hm e a1 w1 hp
 refine (hCE.ok.2 G w vals hA hM).mono fun e w' he=>?_
 obtain ⟨v,G',rfl,hRA,hM',hF'⟩:=he
 refine ⟨v,G',rfl,hRA,hF'.size,hF'.kept,fun b hb=>hF'.same b hb ?_,fun b t hb=>hM'.wf b t hb⟩
 cases hg:G.own b with
 | none=>exact fun h=>h
 | some t=>have:=(hflat b t hg).1;subst this;exact fun h=>h
theorem pc_of_pre {g:Cfg} {X R:Type} [Args X] [Res R] {F:X→Option R} (hctx:CtxOK g) {f n1 n2:Nat} {fn:Func} {c:Code} {F0:St→Option St} (hf:g.P.funcs[f]?=some fn) (hb:fn.body=some c) (hok:fnOK g f fn=true)
 (hpre:PreOK g.P 1 fn.ntmps (dropS n1 c) (dropS n2 (dropS n1 c)) F0) (hlen:∀ x:X,(Args.args x).length≤fn.ntmps) (h:∀ x y,F x=some y→∃ m,callP g f c fn.results.toList n1 n2 F0 (Args.args x)=some (Res.res y,m)):PC g.P f (specP F):=by
 refine PC.of_pre hctx hf hb hok hpre fun az r hr=>?_
 unfold specP at hr
 split at hr
 ·rename_i hx
  obtain ⟨y,hy,rfl⟩:=Option.map_eq_some_iff.1 hr
  have hs:=Classical.choose_spec hx
  refine ⟨?_,?_⟩
  ·rw [← hs];exact hlen _
  ·have:=h _ _ hy
   rwa [hs] at this
 ·cases hr
theorem start_pre {g:Cfg} {f:Nat} {c:Code} {n1 n2:Nat} {F0:St→Option St} {az:List AV} {r:AV} (l:List ResultVar) (h:Goal (FnEnd g.P 0 l ((lookK (f,atEnd) g.gho).getD []) r) (evk g (0+1) f (takeS n1 c) [.pre F0,.code (dropS n2 (dropS n1 c))] { env:=fun t=>(az[t]?).getD .dead,mem:=mem0 })) :
 ∃ m,callP g f c l n1 n2 F0 az=some (r,m):=h
theorem goal_pre {g:Cfg} {d f:Nat} {T:Option Out→Prop} {F:St→Option St} {K:List It} {σ σ':St} (h:F σ=some σ') (h2:Goal T (runK g d f K (.norm σ'))):Goal T (runK g d f (.pre F :: K) (.norm σ)):=by
 rw [r_pre h]
 exact h2
end Go.Ev


namespace Go.Proofs
open Go.Ev Go.RowKit Go.Maps Go.ChangeShapes Go.Sort Go.Lib

structure GV (W0 wl:World) (v:Value) (l ks:List ByteArray):Prop where
 grp:wl.ownsGroups Tryz.prog 9 (W0.heap.size+1) 3 .i64 W0.heap.size l.length (GD l)
 ord:wl.ownsRow (W0.heap.size+1) 9 1 v ks.length (ks.map Value.string)
 sh:wl.Shuns W0.heap.size (fun g=>v.ownBlock=some g)
 bel:Below W0.heap.size W0 wl
 lt:W0.heap.size < wl.heap.size

theorem GV.ordNe {W0 wl:World} {v:Value} {l ks:List ByteArray} (h:GV W0 wl v l ks) {j:Nat} (hj:j≤W0.heap.size):v.ownBlock=none∨v.ownBlock≠some j:=by
 cases hob:v.ownBlock with
 | none=>exact Or.inl rfl
 | some g=>exact Or.inr (fun e=>by cases e;have:=(h.ord.lt _ hob).1;omega)

theorem ext_grown {w w':World} (h:Ext w w') (r:Option Nat):w.grownBy w' r:=⟨h.kept.1.1,h.kept.1.2.1,h.kept.1.2.2,h.size,fun k hk _=>h.same k hk⟩
theorem GV.called {W0 wl w2:World} {v:Value} {l ks:List ByteArray} (h:GV W0 wl v l ks) (hE:Ext wl w2):GV W0 w2 v l ks:=by
 have hg:=ext_grown hE none
 exact ⟨h.grp.kept hg (by simp) (h.grp.rowsAbove (fun j hj=>by cases hj)),h.ord.kept hg (by cases v.ownBlock <;> simp),h.sh.kept hg h.lt (by simp),h.bel.trans ⟨hE.kept.1.1,hE.kept.1.2.1,hE.kept.1.2.2,hE.size,fun k hk=>hE.same k (Nat.lt_trans hk h.lt)⟩,Nat.lt_of_lt_of_le h.lt hE.size⟩

theorem GV.ordered {W0 wl w3:World} {v v':Value} {l ks:List ByteArray} {x:ByteArray} (h:GV W0 wl v l ks) (hown':w3.ownsRow (W0.heap.size+1) 9 1 v' (ks.length+1) (ks.map Value.string ++ [.string x]))
 (hall:wl.grownBy w3 v.ownBlock) (hloc:v'.ownBlock=v.ownBlock∨∃ g,v'.ownBlock=some g∧wl.heap.size≤g):GV W0 w3 v' l (ks ++ [x]):=by
 have hBne:some W0.heap.size≠v.ownBlock:=row_ne_low h.ord (Nat.lt_succ_self _)
 have hsh':wl.Shuns W0.heap.size (fun g=>v'.ownBlock=some g):=h.sh.reno h.grp (fun g hg=>by
  rcases hloc with e | ⟨g',e,hge⟩
  ·exact Or.inl (e ▸ hg)
  ·rw [e] at hg;cases hg;exact Or.inr hge)
 exact ⟨h.grp.kept hall hBne (h.sh.rowsOff (fun j hj=>hj)),by simpa using hown',hsh'.kept hall h.lt hBne,
  h.bel.grown hall (Nat.le_of_lt h.lt) (fun j hj=>by have:=(h.ord.lt j hj).1;omega),Nat.lt_of_lt_of_le h.lt hall.size⟩

theorem GV.ahead {W0 wl w1:World} {v u v':Value} {l ks:List ByteArray} {zs':List Int} (h:GV W0 wl v l ks) (hsu:∀ No:Nat→Prop,wl.Shuns W0.heap.size No→∀ g,u.ownBlock=some g→¬ No g)
 (hown':w1.ownsInts (W0.heap.size+1) 3 .i64 v' zs') (hloc:v'.ownBlock=u.ownBlock∨∃ g,v'.ownBlock=some g∧wl.heap.size≤g):∀ g,v'.ownBlock=some g→¬ v.ownBlock=some g:=fun g hg hno=>by
 rcases hloc with e | ⟨g',e,hge⟩
 ·exact hsu _ h.sh g (e ▸ hg) hno
 ·rw [e] at hg;cases hg
  have:=(h.ord.lt _ hno).2;omega

theorem GV.stored {W0 wl w1 w2:World} {v u:Value} {l ks:List ByteArray} {x:ByteArray} (h:GV W0 wl v l ks) (hsu:∀ No:Nat→Prop,wl.Shuns W0.heap.size No→∀ g,u.ownBlock=some g→¬ No g)
 {zs:List Int} (hu0:wl.ownsInts (W0.heap.size+1) 3 .i64 u zs) (hall:wl.grownBy w1 u.ownBlock) (hown2:w2.ownsGroups Tryz.prog 9 (W0.heap.size+1) 3 .i64 W0.heap.size (l.length+1) (GD (l ++ [x]))) (hgrow2:w1.grownBy w2 (some W0.heap.size))
 (hsh2:w2.Shuns W0.heap.size (fun g=>v.ownBlock=some g)):GV W0 w2 v (l ++ [x]) ks:=by
 have hvu:v.ownBlock=none∨v.ownBlock≠u.ownBlock:=by
  cases hob:v.ownBlock with
  | none=>exact Or.inl rfl
  | some g=>exact Or.inr (fun e=>hsu _ h.sh g e.symm hob)
 exact ⟨by simpa using hown2,(h.ord.kept hall hvu).kept hgrow2 (h.ordNe (Nat.le_refl _)),hsh2,h.bel.groups hu0 hall hgrow2 (Nat.le_of_lt h.lt) (Nat.le_succ _) (Nat.le_refl _),Nat.lt_of_lt_of_le h.lt (Nat.le_trans hall.size hgrow2.size)⟩

theorem GV.start (W0:World):GV W0 ((W0.alloc (.map #[] 0)).alloc (.cells #[] 9)) (.slice (some ⟨W0.heap.size+1,0,none⟩) 0 0) [] []:=by
 have hs:(W0.alloc (.map #[] 0)).heap.size=W0.heap.size+1:=by simp
 have hg:=World.grownBy_alloc (W0.alloc (.map #[] 0)) (.cells #[] 9) none
 refine ⟨(World.ownsGroups_made W0 Tryz.prog 9 3 .i64).kept hg (by simp) (World.ownsGroups.rowsAbove (World.ownsGroups_made (H:=Unit) W0 Tryz.prog 9 3 .i64) (fun j hj=>by cases hj)),⟨rfl,.inr ⟨_,_,#[],rfl,Nat.le_refl _,?_,Nat.le_refl _,Nat.zero_le _,rfl,rfl⟩⟩,(World.Shuns_made W0 _).kept hg (by rw [hs];omega) (by simp),((Below.refl _ _).alloc (Nat.le_refl _) _).alloc (by rw [hs];omega) _,by simp;omega⟩
 have:=(MapKept.heap_alloc (W0.alloc (.map #[] 0)) (.cells #[] 9)).1
 rwa [hs] at this

theorem GD_zs {w:World} {base:Nat} {e:TypeId} {u:Value} {zs:List Int} {l:List ByteArray} {x:ByteArray} (hoi:w.ownsInts base e .i64 u zs) (hat:(GD l).atKey (keyL x) .nil=rowDatum .i64 u zs):zs=posN x l 0:=by
 rw [GD_at] at hat
 rcases hoi.datum (H:=Unit) with ⟨h1,rfl⟩ | h1
 ·rw [h1] at hat
  split at hat
  ·cases hat
  ·rename_i hx
   exact (posN_nil.2 hx).symm
 ·rw [h1] at hat
  split at hat
  ·injection hat with h2 _
   exact ((List.map_inj_right (f:=fun n=>(DataW.lit (.int .i64 n):DataW Unit)) (l:=posN x l 0) (l':=zs) (fun a b hab=>by injection hab with h3;injection h3)).1 h2).symm
  ·cases hat
theorem GD_next {w:World} {base:Nat} {e:TypeId} {v':Value} {zs:List Int} {l:List ByteArray} {x:ByteArray} {k:Nat} (hoi':w.ownsInts base e .i64 v' (zs ++ [(k:Int)])) (hz:zs=posN x l 0) (hk:l.length=k):(GD l).put (keyL x) (rowDatum .i64 v' (zs ++ [(k:Int)]))=GD (l ++ [x]):=by
 rw [GD_snoc,hoi'.datum_pos (by simp),hz,zhl,if_pos rfl,hk,Int.zero_add]

theorem zld {P:Program} (w:World) {ops:Array Oper} {rest:List Oper} {o:Oper} {a:Act} {Q:Exit→Act→World→Prop} (hg:o.guard=none) (m x:Operand) (t:TypeId) (hop:o.op=Op.lookup t m x false)
 (k E e:TypeId) (q:IntKind) (K:Keyed P k) (ht:P.underlying t=some (.map k E)) (hz:(zeroValue E).run P w=.ok (.slice none 0 0) w) (base b n:Nat) (D:DataW Unit)
 (hm:a.eval m=.map (some b)) (hown:w.ownsGroups P k base e q b n D) (hn:n < maxLen) (key:Value) (kl:Lit) (hx:a.eval x=key) (hkey:keyOf P k key=some kl) (hat:D.atKey kl .nil=.nil)
 (hK:wpList P ops Q rest (a.put o.dst (.slice none 0 0)) w):wpList P ops Q (o :: rest) a w:=by
 refine wpList_plain hg fun K' hK'=>?_
 obtain ⟨v,zs,hrun,hat',hoi,_⟩:=hown.at K ht hz hn hkey
 have hv:v=.slice none 0 0:=by
  rw [hat] at hat'
  rcases hoi.1.2 with ⟨h,_⟩|⟨g,cap,cur,rfl,_⟩
  ·exact h
  ·cases hat'
 subst hv
 unfold Oper.wp
 simp [execOp,hop,hm,hx,hrun,Result.andThen]
 exact hK' _ _ hK
theorem zlc {P:Program} (w:World) {ops:Array Oper} {rest:List Oper} {o:Oper} {a:Act} {Q:Exit→Act→World→Prop} (hg:o.guard=none) (m x:Operand) (t:TypeId) (hop:o.op=Op.lookup t m x false)
 (k E e:TypeId) (q:IntKind) (K:Keyed P k) (ht:P.underlying t=some (.map k E)) (hz:(zeroValue E).run P w=.ok (.slice none 0 0) w) (base b n:Nat) (D:DataW Unit)
 (hm:a.eval m=.map (some b)) (hown:w.ownsGroups P k base e q b n D) (hn:n < maxLen) (key:Value) (kl:Lit) (hx:a.eval x=key) (hkey:keyOf P k key=some kl) {ys:List (DataW Unit)} (hat:D.atKey kl .nil=.slice ys [])
 (hK:∀ (g m c:Nat),wpList P ops Q rest (a.put o.dst (.slice (some ⟨g,0,none⟩) m c)) w):wpList P ops Q (o :: rest) a w:=by
 refine wpList_plain hg fun K' hK'=>?_
 obtain ⟨v,zs,hrun,hat',hoi,_⟩:=hown.at K ht hz hn hkey
 have hv:∃ g c,v=.slice (some ⟨g,0,none⟩) zs.length c:=by
  rw [hat] at hat'
  rcases hoi.1.2 with ⟨rfl,_⟩|⟨g,cap,cur,rfl,_⟩
  ·cases hat'
  ·exact ⟨g,cap,rfl⟩
 obtain ⟨g,c,rfl⟩:=hv
 unfold Oper.wp
 simp [execOp,hop,hm,hx,hrun,Result.andThen]
 exact hK' _ _ (hK g _ c)

theorem holds_names {w:World} {g:Nat} {cur:Array Value} {e:TypeId} {ss:List ByteArray} (hb:w.heap[g]?=some (.cells cur e (0,0))) (ht:cur.toList.take ss.length=ss.map Value.string):Holds Value.string w g 0 ss.toArray:=by
 intro j hj
 have hj':j < ss.length:=by simpa using hj
 refine ⟨?_,by simp [World.frozen?,hb]⟩
 have h1:(cur.toList.take ss.length)[j]?=(ss.map Value.string)[j]?:=by rw [ht]
 rw [List.getElem?_take_of_lt hj'] at h1
 simp only [World.cell?,hb,Nat.zero_add]
 simp only [Option.isSome_none,Bool.false_eq_true,if_false]
 rw [← Array.getElem?_toList,h1]
 simp [hj']
theorem GV.sorted {W0 wr:World} {g cap q m:Nat} {cur:Array Value} {l ks ts:List ByteArray} (h:GV W0 wr (.slice (some ⟨g,0,none⟩) m cap) l ks) (hm:m=ks.length) (hb:wr.heap[g]?=some (.cells cur 9 (0,0))) (h1:m≤cap) (h2:cap≤maxLen) (h3:cur.size=cap * 1) (hbase:W0.heap.size+1≤g) (hl:ts.length=ks.length) :
 GV W0 ((putRow Value.string wr g 0 ts.toArray).drewN q) (.slice (some ⟨g,0,none⟩) m cap) l ts:=by
 have hgr:wr.grownBy ((putRow Value.string wr g 0 ts.toArray).drewN q) (some g):=by
  refine ⟨rfl,rfl,rfl,by show _≤(putRow Value.string wr g 0 ts.toArray).heap.size;simp,fun k hk hne=>?_⟩
  have:g≠k:=fun e=>hne (by rw [e])
  show (putRow Value.string wr g 0 ts.toArray).heap[k]?=_
  simp [putRow,mapBlock,Array.getElem?_modify,this]
 have hB:some W0.heap.size≠some g:=by simp;omega
 refine ⟨h.grp.kept hgr hB (h.sh.rowsOff (fun j hj=>hj ▸ rfl)),⟨by simp,.inr ⟨g,cap,putCells Value.string 0 ts.toArray cur,by rw [hm,hl],hbase,?_,by omega,h2,by simp [putCells,h3],?_⟩⟩,h.sh.kept hgr h.lt hB,h.bel.grown hgr (Nat.le_of_lt h.lt) (fun j hj=>by cases hj;omega),Nat.lt_of_lt_of_le h.lt hgr.size⟩
 ·show (putRow Value.string wr g 0 ts.toArray).heap[g]?=_
  simp [putRow,mapBlock,Array.getElem?_modify,hb,onCells]
 ·rw [Nat.mul_one]
  apply List.ext_getElem?
  intro j
  by_cases hj:j < ts.length
  ·rw [List.getElem?_take_of_lt hj,Array.getElem?_toList]
   simp [putCells,hj,show j < cur.size by omega]
  ·rw [List.getElem?_take_eq_none (by omega),List.getElem?_eq_none (by simp;omega)]

theorem seq3 {P:Program} {c A B C R:Code} {Q:Exit→Act→World→Prop} {a:Act} {w:World} (h:c=.seq A (.seq B (.seq C R))) (H:∀ X:Code,(∀ a w,R.wp P Q a w→X.wp P Q a w)→(Code.seq A (.seq B (.seq C X))).wp P Q a w):c.wp P Q a w :=
 h ▸ H R (fun _ _ h=>h)

theorem Tryz.info3:(Tryz.prog.info? 3).map (fun i=>(i.zero,i.size,i.bytes))=some (some (.int .i64 0),1,8):=by kernel_rfl
theorem Tryz.info9:(Tryz.prog.info? 9).map (fun i=>(i.zero,i.size,i.bytes))=some (some (.string ⟨#[]⟩),1,16):=by kernel_rfl
theorem zero23 (w:World):(zeroValue 30).run Tryz.prog w=.ok (.slice none 0 0) w:=by kernel_rfl
theorem eqNil0 (w:World):(binOp .eql 30 (.slice none 0 0) (.slice none 0 0)).run Tryz.prog w=.ok (.bool true) w:=by kernel_rfl
theorem eqNil1 (g m c:Nat) (w:World):(binOp .eql 30 (.slice (some ⟨g,0,none⟩) m c) (.slice none 0 0)).run Tryz.prog w=.ok (.bool false) w:=by kernel_rfl
theorem law9:Keyed Tryz.prog 9:=string_keyed Tryz.underlying9

set_option maxRecDepth 1000000 in
set_option maxHeartbeats 8000000 in
theorem walk12 {W0:World} {f:Nat→Value} {β n scap:Nat} {names:List ByteArray} {c1:Value} {sa:Option Addr} (hf1:f 1=.pointer (some ⟨β,0,none⟩)) (hβ:β < W0.heap.size) (h0:W0.cell? ⟨β,0,none⟩=some (.slice sa n scap)) (h1:W0.cell? ⟨β,1,none⟩=some c1)
 (hn:names.length=n) (hn1:1≤n) (h12:n≤12) (hsz:∀ s∈names,s.size≤1000000)
 (hnode:∀ i,i < n→∀ wr,Ext W0 wr→Calls Tryz.prog 26 #[.agg #[.slice sa n scap,c1],.int .i64 i] wr fun e w'=>e=.returned (.string (names.getD i ByteArray.empty))∧Ext wr w') {Q:Exit→Act→World→Prop}
 (hR:∀ tm v wl,tm.size=126→tm.getD 1 undef=f 1→tm.getD 2 undef=f 2→tm.getD 3 undef=.map (some W0.heap.size)→tm.getD 4 undef=v→GV W0 wl v names (sortN (dstN names)) →
  (dropS 3 (dropS 2 (Tryz.f21.body.getD .skip))).wp Tryz.prog Q { tmps:=tm,defers:=[] } wl) :
 (dropS 2 (Tryz.f21.body.getD .skip)).wp Tryz.prog Q { tmps:=#[f 0,f 1,f 2,f 3,f 4,f 5,f 6,f 7,f 8,f 9,f 10,f 11,f 12,f 13,f 14,f 15,f 16,f 17,f 18,f 19,f 20,f 21,f 22,f 23,f 24,f 25,f 26,f 27,f 28,f 29,f 30,f 31,f 32,f 33,f 34,f 35,f 36,f 37,f 38,f 39,f 40,f 41,f 42,f 43,f 44,f 45,f 46,f 47,f 48,f 49,f 50,f 51,f 52,f 53,f 54,f 55,f 56,f 57,f 58,f 59,f 60,f 61,f 62,f 63,f 64,f 65,f 66,f 67,f 68,f 69,f 70,f 71,f 72,f 73,f 74,f 75,f 76,f 77,f 78,f 79,f 80,f 81,f 82,f 83,f 84,f 85,f 86,f 87,f 88,f 89,f 90,f 91,f 92,f 93,f 94,f 95,f 96,f 97,f 98,f 99,f 100,f 101,f 102,f 103,f 104,f 105,f 106,f 107,f 108,f 109,f 110,f 111,f 112,f 113,f 114,f 115,f 116,f 117,f 118,f 119,f 120,f 121,f 122,f 123,f 124,f 125],defers:=[] } W0:=by
 refine seq3 rfl fun X hX'=>?_
 have hX:Hid _:=fun tm v wl h1 h2 h3 h4 h5 h6=>hX' _ _ (hR tm v wl h1 h2 h3 h4 h5 h6)
 clear hX' hR
 rw [hf1]
 have hmm:=@run_makeMap Tryz.prog
 have nil0:=eqNil0
 have nil1:=eqNil1
 obtain ⟨i3,hi3,hz3,hs3,hb3⟩:=info_parts Tryz.info3
 obtain ⟨i9,hi9,hz9,hs9,hb9⟩:=info_parts Tryz.info9
 have HN:Hid _:=hnode
 have HS:Hid (∀ s∈names,s.size≤1000000):=hsz
 have H0:Hid _:=h0
 have H1:Hid _:=h1
 have HL:Hid (names.length=n):=hn
 have HF:Hid _:=hf1
 clear hnode hsz hf1 hn
 go_wp2
 go_loopw [4,34] (fun v i wl=>∃ k:Nat,k≤n∧i=.int .i64 k∧Hid (GV W0 wl v (names.take k) (dstN (names.take k)))) (fun _ i _=>n - (intOf i).toNat)
 case atStart=>exact ⟨0,Nat.zero_le _,rfl,GV.start W0⟩
 case round =>
  obtain ⟨k,hk,rfl,HG⟩:=hrel
  by_cases hlt:k < n
  ·have c0:wr.cell? ⟨β,0,none⟩=some (.slice sa n scap):=(HG.out.bel.cell hβ).trans H0.out
   have c1:wr.cell? ⟨β,1,none⟩=some _:=(HG.out.bel.cell hβ).trans H1.out
   have hc:=HN.out k hlt wr ⟨HG.out.bel.size,⟨⟨HG.out.bel.os,HG.out.bel.tape,HG.out.bel.output⟩,fun a ha=>⟨Nat.lt_of_lt_of_le ha HG.out.bel.size,World.frozen?_of_block (HG.out.bel.block a.block ha)⟩⟩,HG.out.bel.block⟩
   have hx:names[k]?=some (names.getD k ByteArray.empty):=by rw [List.getD_eq_getElem?_getD,List.getElem?_eq_getElem (by have:=HL.out;omega)];rfl
   have hxs:(names.getD k ByteArray.empty).size≤1000000:=HS.out _ (List.mem_of_getElem? hx)
   have htk:names.take (k+1)=names.take k ++ [names.getD k ByteArray.empty]:=by rw [List.take_add_one,hx];rfl
   have htl:(names.take k).length=k:=by have:=HL.out;simp;omega
   generalize names.getD k ByteArray.empty=x at hc hx hxs htk
   have hkey:keyOf Tryz.prog 9 (.string x)=some (keyL x):=WideMaps.keyOf_string_mk Tryz.underlying9 (by unfold maxLen;omega)
   have HTK:Hid _:=htk
   have HX:Hid _:=hx
   clear h0 h1 hx htk
   go_wp2_with (go_at_call 26;refine hc.mono ?_)
   rintro e w2 ⟨rfl,hE⟩
   have G2:Hid _:=HG.out.called hE
   have tok1:True:=trivial
   have tok2:True:=trivial
   clear HG hc hE c0 c1
   by_cases hin:x∈names.take k
   ·have hat0:(GD (names.take k)).atKey (keyL x) .nil=.slice (lits .i64 (posN x (names.take k) 0)) []:=by rw [GD_at,if_pos hin]
    go_wp2_with (first
     | (at_lookup;have _t:=tok1;refine zlc _ rfl _ _ 70 rfl 9 30 3 .i64 law9 Tryz.underlying70 (zero23 _) (W0.heap.size+1) W0.heap.size _ _ rfl G2.out.grp (by rw [htl];unfold maxLen;omega) _ _ rfl hkey hat0 ?_;intro g0 m0 c0;clear tok1)
     | (at_lookup;have _t:=tok2;refine wpList_lookup_groups_shuns _ rfl _ _ 70 rfl 9 30 3 .i64 law9 Tryz.underlying70 (zero23 _) (W0.heap.size+1) W0.heap.size _ _ rfl G2.out.grp (by rw [htl];unfold maxLen;omega) _ _ rfl hkey ?_;intro u zs hat hoi hzl hback hsu;clear tok2)
     | (at_builtin;refine wpList_append_own_at _ rfl _ _ 30 rfl (W0.heap.size+1) 3 i3 (.int .i64 0) 1 8 Tryz.underlying30 hi3 hz3 hs3 hb3 rfl (by decide) _ _ _ rfl (hoi.1.alloc _) ⟨w2.heap.size,0,none⟩ 1 1 [.int .i64 k] rfl rfl (cell_one_new _ _ _) (ints_oneCell .i64 [(k:Int)]) (by unfold maxLen;omega) (by omega) (by have:=G2.out.lt;simp;omega) ?_;intro v' w5 hown' hgrow hnil hloc
        have hall:=(World.grownBy_alloc w2 (.cells #[.int .i64 k] 3) u.ownBlock).trans hgrow
        have hoi':=hoi.appended hown' (WalkArith.wf_i64 (by omega))
        have hloc':v'.ownBlock=u.ownBlock∨∃ g,v'.ownBlock=some g∧w2.heap.size≤g:=hloc.imp id (fun h=>⟨_,h,by simp⟩)
        have pre:=G2.out.ahead hsu hoi' hloc')
     | (at_mapUpdate;refine wpList_mapUpdate_back_shuns _ rfl _ _ _ 70 rfl law9 Tryz.underlying70 hkey G2.out.grp (by rw [htl];unfold maxLen;omega) hoi G2.out.sh pre hback rfl rfl rfl hall hoi' (by rw [List.length_append];exact Nat.succ_le_succ hzl) hloc' ?_;intro w6 hown6 hgrow6 hsh6)
     | go_in)
    have I6:Hid _:=G2.out.stored hsu hoi hall (by rw [← GD_next hoi' (GD_zs hoi hat) htl];exact hown6) hgrow6 hsh6
    have hd:dstN (names.take (k+1))=dstN (names.take k):=by rw [HTK.out,zkx,if_pos ((zhz _ _).2 hin)]
    refine ⟨⟨k+1,by omega,by simp,?_⟩,by simp [intOf];omega⟩
    rw [hd,HTK.out]
    exact I6
   ·have hat0:(GD (names.take k)).atKey (keyL x) .nil=.nil:=by rw [GD_at,if_neg hin]
    have tokA:True:=trivial
    have hdl:(dstN (names.take k)).length≤k:=by have:=zib (names.take k);omega
    go_wp2_with (first
     | (at_lookup;have _t:=tok1;refine zld _ rfl _ _ 70 rfl 9 30 3 .i64 law9 Tryz.underlying70 (zero23 _) (W0.heap.size+1) W0.heap.size _ _ rfl G2.out.grp (by rw [htl];unfold maxLen;omega) _ _ rfl hkey hat0 ?_;clear tok1)
     | (at_builtin;have _t:=tokA;refine wpList_append_own_at _ rfl _ _ 71 rfl (W0.heap.size+1) 9 i9 (.string ⟨#[]⟩) 1 16 Tryz.underlying71 hi9 hz9 hs9 hb9 rfl (by decide) _ _ _ rfl (G2.out.ord.alloc _) ⟨w2.heap.size,0,none⟩ 1 1 [.string x] rfl rfl (cell_one_new _ _ _) (by simp [Value.oneCell']) (by unfold maxLen;omega) (by omega) (by have:=G2.out.lt;simp;omega) ?_;intro vo w3 hownO hgrowO hnilO hlocO
        have hallO:=(World.grownBy_alloc w2 (.cells #[.string x] 9) u4.ownBlock).trans hgrowO
        have G3:Hid _:=G2.out.ordered hownO hallO (hlocO.imp id (fun h=>⟨_,h,by simp⟩))
        clear tokA hownO hgrowO hlocO hallO)
     | (at_lookup;have _t:=tok2;refine wpList_lookup_groups_shuns _ rfl _ _ 70 rfl 9 30 3 .i64 law9 Tryz.underlying70 (zero23 _) (W0.heap.size+1) W0.heap.size _ _ rfl G3.out.grp (by rw [htl];unfold maxLen;omega) _ _ rfl hkey ?_;intro u zs hat hoi hzl hback hsu;clear tok2)
     | (at_builtin;refine wpList_append_own_at _ rfl _ _ 30 rfl (W0.heap.size+1) 3 i3 (.int .i64 0) 1 8 Tryz.underlying30 hi3 hz3 hs3 hb3 rfl (by decide) _ _ _ rfl (hoi.1.alloc _) ⟨w3.heap.size,0,none⟩ 1 1 [.int .i64 k] rfl rfl (cell_one_new _ _ _) (ints_oneCell .i64 [(k:Int)]) (by unfold maxLen;omega) (by omega) (by have:=G3.out.lt;simp;omega) ?_;intro v' w5 hown' hgrow hnil hloc
        have hall:=(World.grownBy_alloc w3 (.cells #[.int .i64 k] 3) u.ownBlock).trans hgrow
        have hoi':=hoi.appended hown' (WalkArith.wf_i64 (by omega))
        have hloc':v'.ownBlock=u.ownBlock∨∃ g,v'.ownBlock=some g∧w3.heap.size≤g:=hloc.imp id (fun h=>⟨_,h,by simp⟩)
        have pre:=G3.out.ahead hsu hoi' hloc')
     | (at_mapUpdate;refine wpList_mapUpdate_back_shuns _ rfl _ _ _ 70 rfl law9 Tryz.underlying70 hkey G3.out.grp (by rw [htl];unfold maxLen;omega) hoi G3.out.sh pre hback rfl rfl rfl hall hoi' (by rw [List.length_append];exact Nat.succ_le_succ hzl) hloc' ?_;intro w6 hown6 hgrow6 hsh6)
     | go_in)
    have I6:Hid _:=G3.out.stored hsu hoi hall (by rw [← GD_next hoi' (GD_zs hoi hat) htl];exact hown6) hgrow6 hsh6
    have hd:dstN (names.take (k+1))=dstN (names.take k) ++ [x]:=by rw [HTK.out,zkx,if_neg (fun h=>hin ((zhz _ _).1 h))]
    refine ⟨⟨k+1,by omega,by simp,?_⟩,by simp [intOf];omega⟩
    rw [hd,HTK.out]
    exact I6
  ·obtain rfl:k=n:=by omega
   have hall:names.take k=names:=List.take_of_length_le (by have:=HL.out;omega)
   rw [hall] at HG
   have hdl:(dstN names).length≤k:=by have:=zib names;have:=HL.out;omega
   have hne:(dstN names).length≠0:=by
    intro h
    have h2:names=[]:=by
     cases hnm:names with
     | nil=>rfl
     | cons y ys =>
      have:=(zhz y names).2 (by rw [hnm];exact List.mem_cons_self ..)
      rw [List.length_eq_zero_iff.1 h] at this
      cases this
    have:=HL.out
    rw [h2] at this
    simp at this
    omega
   rcases HG.out.ord.2 with ⟨_,h⟩|⟨g,cap,cur,rfl,hbase,hb,q1,q2,q3,q4⟩
   ·exact absurd h hne
   have hH:Holds Value.string wr g 0 (dstN names).toArray:=holds_names hb (by simpa using q4)
   have hs:=sort39 g cap (dstN names).toArray wr hH (by simp;omega)
   simp only [List.size_toArray] at hs
   have HH:Hid _:=hH
   have HB:Hid _:=hb
   clear hH hb h0 h1
   go_wp2_with (go_at_call 50;refine hs.mono ?_;rintro e w' ⟨rfl,q,rfl⟩)
   have hlen:(Sort.insertionSort (ltOf cmpS) (dstN names).toArray 0 (dstN names).length).toList.length=(dstN names).length:=by
    rw [lt_cmpS]
    exact zhc _
   have G9:=HG.out.sorted (q:=q) rfl HB.out q1 q2 q3 hbase hlen
   rw [lt_cmpS] at G9
   rw [lt_cmpS]
   exact hX.out _ _ _ rfl HF.out.symm rfl rfl rfl G9
end Go.Proofs


namespace Go.Proofs
open Go.Ev Go.RowKit Go.Maps Go.ChangeShapes Go.Sort Go.Lib

def namesF (F:List AV→Option AV) (az:List C):Nat→Option (List ByteArray)
 | 0=>some []
 | k+1=>(namesF F az k).bind fun l=>match F [.ag az,.one (.s (.int .i64 k))] with
  | some (.one (.s (.string x)))=>some (l ++ [x])
  | _=>none
theorem namesF_ok {F:List AV→Option AV} {az:List C}:∀ {k:Nat} {l:List ByteArray},namesF F az k=some l→l.length=k∧∀ i,i < k→F [.ag az,.one (.s (.int .i64 i))]=some (.one (.s (.string (l.getD i ByteArray.empty))))
 | 0,l,h=>by cases h;exact ⟨rfl,fun i hi=>absurd hi (Nat.not_lt_zero i)⟩
 | k+1,l,h=>by
  rw [namesF,Option.bind_eq_some_iff] at h
  obtain ⟨l0,h0,h⟩:=h
  obtain ⟨h1,h2⟩:=namesF_ok h0
  split at h
  ·rename_i x hx
   cases h
   refine ⟨by simp [h1],fun i hi=>?_⟩
   rcases Nat.lt_or_eq_of_le (Nat.le_of_lt_succ hi) with hlt | rfl
   ·rw [h2 i hlt,List.getD_eq_getElem?_getD,List.getD_eq_getElem?_getD,List.getElem?_append_left (by omega)]
   ·rw [hx,List.getD_eq_getElem?_getD,List.getElem?_append_right (by omega)]
    simp [h1]
  ·cases h

def pre12 (F:List AV→Option AV) (σ:St):Option St:=match σ.env 1 with
 | .one (.ptr k off)=>if k=(1,1)∧off=0 then (match σ.mem (1,1) with
  | some [.l .shr n cs,.l .shr n1 cs1]=>if 1≤n∧n≤12 then (namesF F [.l .shr n cs,.l .shr n1 cs1] n).bind fun names=>if names.all (fun s=>decide (s.size≤1000000)) then
   some { env:=envL [(1,σ.env 1),(2,σ.env 2),(3,.one (.mp (encM (grpN names)))),(4,.one (.l .shr (sortN (dstN names)).length (encL (sortN (dstN names)))))],mem:=σ.mem } else none
   else none
  | _=>none) else none
 | _=>none

theorem lit126 (tm:Array Value) (h:tm.size=126):tm=((List.range 126).map fun i=>tm.getD i undef).toArray:=by
 apply Array.ext_getElem?
 intro i
 simp only [List.getElem?_toArray,List.getElem?_map]
 by_cases hi:i < 126
 ·rw [List.getElem?_range hi]
  simp [Array.getD_eq_getD_getElem?,h,hi]
 ·rw [Array.getElem?_eq_none (by omega),List.getElem?_eq_none (by simp;omega)]
  rfl

theorem preOK12 {F:List AV→Option AV} (h38:PC Tryz.prog 26 F):PreOK Tryz.prog 1 126 (dropS 2 (Tryz.f21.body.getD .skip)) (dropS 3 (dropS 2 (Tryz.f21.body.getD .skip))) (pre12 F):=by
 intro σ σ' hF G w a hS hd Q hrest
 unfold pre12 at hF
 split at hF
 rotate_left
 ·cases hF
 rename_i k off he
 split at hF
 rotate_left
 ·cases hF
 rename_i hk
 obtain ⟨rfl,rfl⟩:=hk
 split at hF
 rotate_left
 ·cases hF
 rename_i n cs n1 cs1 hm
 split at hF
 rotate_left
 ·cases hF
 rename_i hn
 rw [Option.bind_eq_some_iff] at hF
 obtain ⟨names,hnm,hF⟩:=hF
 split at hF
 rotate_left
 ·cases hF
 rename_i hsz
 cases hF
 obtain ⟨hlen,hcall⟩:=namesF_ok hnm
 obtain ⟨arr,el,hh,hown,_,hcs⟩:=hS.mem (1,1) _ hm (by simp)
 obtain ⟨x0,hx0,r0⟩:=hcs.2 0 _ rfl
 obtain ⟨x1,hx1,r1⟩:=hcs.2 1 _ rfl
 have hE1:=hS.env 1
 rw [he] at hE1
 obtain ⟨hl1,hv1⟩:=hE1
 have r0':RD w G (.cell (1,1)) .shr [0+0] (.sl n cs) x0:=r0
 rw [RD] at r0'
 rcases r0' with ⟨_,h0,_⟩|⟨_,_,b0,off0,cap0,rfl,_,_,_⟩
 ·omega
 have hcell:∀ i x,(arr.toList.take 2)[i]?=some x→w.cell? ⟨G.β (1,1),i,none⟩=some x:=fun i x hi=>by
  simp only [World.cell?,hh]
  simp only [Option.isSome_none,Bool.false_eq_true,if_false]
  rw [List.getElem?_take] at hi
  split at hi
  ·rw [← Array.getElem?_toList];exact hi
  ·cases hi
 have hsh:[AV.ag [.l .shr n cs,.l .shr n1 cs1],.one (.s (.int .i64 (0:Int)))].all AV.shr?=true:=rfl
 obtain ⟨tm,df⟩:=a
 have hd:df=[]:=hd
 subst hd
 have hS:Sim 1 126 G σ tm w:=hS
 have htm:=lit126 tm hS.sz
 have hv1:tm.getD 1 undef=.pointer (some ⟨G.β (1,1),0,none⟩):=hv1
 have key:=walk12 (W0:=w) (f:=fun i=>tm.getD i undef) (β:=G.β (1,1)) (n:=n) (scap:=cap0) (names:=names) (c1:=x1) (sa:=some ⟨b0,off0,none⟩) hv1 (hS.wf _ _ hown) (hcell 0 _ hx0) (hcell 1 _ hx1) hlen hn.1 hn.2
  (fun s hs=>by rw [List.all_eq_true] at hsz;simpa using hsz s hs)
  (fun i hi wr hE=>h38.ext (args:=[.ag [.l .shr n cs,.l .shr n1 cs1],.one (.s (.int .i64 i))]) (hcall i hi) (G:=G) rfl rfl (fun j x hj=>by
   match j with
   | 0=>cases hj;exact ⟨_,rfl,_,rfl,rfl,fun j c hj=>by
    match j with
    | 0=>cases hj;exact ⟨_,rfl,zjl (G:=G) rfl (fun b hb=>⟨hb,Nat.le_refl _⟩) r0⟩
    | 1=>cases hj;exact ⟨_,rfl,zjl (G:=G) rfl (fun b hb=>⟨hb,Nat.le_refl _⟩) r1⟩
    | j+2=>cases hj⟩
   | 1=>cases hj;exact ⟨_,rfl,rfl,rfl⟩
   | j+2=>cases hj) hE) (Q:=Q) fun tm' v wl hz' h1' h2' h3' h4' hG=>?_
 ·have:({ tmps:=tm,defers:=[] }:Act)={ tmps:=((List.range 126).map fun i=>tm.getD i undef).toArray,defers:=[] }:=by rw [← htm]
  rw [this]
  exact key
 ·have hE:=below_ext hG.bel
  obtain ⟨hS1,hF1⟩:=hS.ext hE (fillU wl)
  have hnone:∀ g,w.heap.size≤g→G.own g=none:=fun g hg=>by
   cases ho:G.own g with
   | none=>rfl
   | some t=>have:=hS.wf g t ho;omega
  have huse:∀ g,w.heap.size≤g→(G.more w.heap.size (fillU wl)).use g=fillU wl g:=fun g hg=>by
   show (if g < w.heap.size then _ else _)=_
   rw [if_neg (by omega)]
  refine hrest (G.more w.heap.size (fillU wl)) { tmps:=tm',defers:=[] } wl (hS1.slots hz' fun t=>?_) rfl hF1
  match t with
  | 1 =>
   show RA wl _ _ (σ.env 1) (tm'.getD 1 undef)
   rw [h1']
   exact hS1.env 1
  | 2 =>
   show RA wl _ _ (σ.env 2) (tm'.getD 2 undef)
   rw [h2']
   exact hS1.env 2
  | 3 =>
   show RC wl _ _ [] (.mp (encM (grpN names))) (tm'.getD 3 undef)
   rw [h3']
   obtain ⟨es,clock,hb,_⟩:=id hG.grp
   refine ⟨w.heap.size,es,clock,rfl,hnone _ (Nat.le_refl _),hb,fun s m ds hl=>?_⟩
   obtain ⟨r,hr,rfl,rfl⟩:=lookM_inv hl
   unfold grpN at hr
   rw [znm] at hr
   split at hr
   ·rename_i hs
    cases hr
    have hs':s∈names:=(zhz _ _).1 hs
    obtain ⟨i,x,hf,ho⟩:=groups_find Tryz.underlying70 Tryz.underlying9 (zero23 _) hG.grp (by unfold maxLen;omega) (s:=s) (by rw [List.all_eq_true] at hsz;have:=hsz s hs';unfold maxLen;simp at this;omega) (by rw [GD_at,if_pos hs']) hb
    refine ⟨i,x,hf,?_⟩
    rw [encL_i]
    have:=zli (G:=G.more w.heap.size (fillU wl)) (o:=.slot 1 3) (p:=[]) (w:=wl) (v:=x) (vs:=(posN s names 0).map fun z=>Value.int .i64 z) (base:=w.heap.size+1) (e:=3) (fun v hv=>by obtain ⟨z,_,rfl⟩:=List.mem_map.1 hv;rfl) (by simpa using ho.1) (fun g hg=>hnone g (by omega)) (fun g hg _=>huse g (by omega))
    simpa using this
   ·cases hr
  | 4 =>
   show RC wl _ _ [] (.l .shr _ _) (tm'.getD 4 undef)
   rw [h4']
   show RD _ _ _ .shr [] (.sl _ _) v
   rw [encL_s]
   have:=zli (G:=G.more w.heap.size (fillU wl)) (o:=.slot 1 4) (p:=[]) (w:=wl) (v:=v) (vs:=(sortN (dstN names)).map Value.string) (base:=w.heap.size+1) (e:=9) (fun v hv=>by obtain ⟨z,_,rfl⟩:=List.mem_map.1 hv;rfl) (by simpa using hG.ord) (fun g hg=>hnone g (by omega)) (fun g hg _=>huse g (by omega))
   simpa using this
  | 0=>exact trivial
  | t+5=>exact trivial
end Go.Proofs


namespace Go.Proofs
open Go.Ev

theorem namesF_T {F:List AV→Option AV} {nm:TStructure→Int→Option ByteArray} (hF:∀ s i x,nm s i=some x→F [av .shr s,av .shr i]=some (.one (.s (.string x)))) {s:TStructure}:∀ {k:Nat} {l:List ByteArray},namesT (nm s) k=some l →
 namesF F [.l .shr s.nodes.length (encL s.nodes),.l .shr s.next.length (encL s.next)] k=some l
 | 0,l,h=>h
 | k+1,l,h=>by
  rw [namesT,Option.bind_eq_some_iff] at h
  obtain ⟨l0,h0,h⟩:=h
  rw [Option.bind_eq_some_iff] at h
  obtain ⟨x,hx,h⟩:=h
  cases h
  rw [namesF,namesF_T hF h0,Option.bind_some]
  have:F [.ag [.l .shr s.nodes.length (encL s.nodes),.l .shr s.next.length (encL s.next)],.one (.s (.int .i64 k))]=_:=hF s k x hx
  rw [this]
theorem pre12_eq {F:List AV→Option AV} {nm:TStructure→Int→Option ByteArray} (hF:∀ s i x,nm s i=some x→F [av .shr s,av .shr i]=some (.one (.s (.string x)))) {s:TStructure} {es:List (ByteArray × List Int)} {ls:List ByteArray} (hp:preT nm s=some (es,ls)) {σ:St}
 (h1:σ.env 1=.one (.ptr (1,1) 0)) (h2:σ.mem (1,1)=some [.l .shr s.nodes.length (encL s.nodes),.l .shr s.next.length (encL s.next)]) :
 pre12 F σ=some { env:=envL [(1,.one (.ptr (1,1) 0)),(2,σ.env 2),(3,.one (.mp (encM es))),(4,.one (.l .shr ls.length (encL ls)))],mem:=σ.mem }:=by
 unfold preT at hp
 rw [Option.bind_eq_some_iff] at hp
 obtain ⟨l,hl,hp⟩:=hp
 split at hp
 rotate_left
 ·cases hp
 rename_i hc
 cases hp
 rw [Bool.and_eq_true] at hc
 obtain ⟨hfew,hone⟩:=hc
 have hone:1≤l.length:=by simpa using hone
 obtain ⟨hlen,_⟩:=zni hl
 have h12:=(few_ok hfew).1
 have hall:(l.all fun s=>decide (s.size≤1000000))=true:=by
  unfold few at hfew
  rw [Bool.and_eq_true] at hfew
  exact hfew.2
 unfold pre12
 rw [h1]
 simp only [and_self,if_true,h2]
 rw [if_pos (by omega),namesF_T hF hl,Option.bind_some,if_pos hall]
end Go.Proofs

