import Derived.Test.YtfcfpdcjepobpaaEvA10
import Derived.Test.YtfcfpdcjepobpaaEvA7
import Derived.Test.YtfcfpdcjepobpaaEvA9
import Derived.Test.YtfcfpdcjepobpaaProg
import Derived.KernelRfl
import Derived.WalkKit
import Derived.Deep.LoopGhost
import Derived.Lib.Walk
import Derived.Lib.SliceRun
import Derived.Laws.OwnMore
import Derived.Lib.AppendZerosOnto
import Derived.Test.YtfcfpdcjepobpaaEvA8
import Derived.Deep.RegionLaw
import Derived.Shelf.RegionOpenPlain
import Derived.Lib.SlicesDelete
import Derived.Laws.Rows
import Derived.Laws.IdiomStrings
import Derived.Laws.BytesArg
set_option linter.unusedSimpArgs false
set_option linter.unusedVariables false
set_option linter.unnecessarySimpa false
noncomputable section
namespace Go.Ev
structure Emb (s t:TStructure) (f:Nat→Nat):Prop where
 rng:∀ i,i < s.nodes.length→f i < t.nodes.length
 node:∀ i,i < s.nodes.length→nodeW (s.nodes.getD i zN) (t.nodes.getD (f i) zN)=true
 next:∀ i k,i < s.nodes.length→k < s.nodes.length→wB (nextV s i k) (nextV t (f i) (f k))=true
 many:∀ i k,i < k→k < s.nodes.length→f i=f k→(t.nodes.getD (f k) zN).many=1
 onto:∀ j,j < t.nodes.length→∃ i,i < s.nodes.length∧f i=j
def mapTo (f:Nat→Nat) (k:Nat):List Int:=(List.range k).map fun i=>(f i:Int)
theorem zmc (f:Nat→Nat) (k:Nat):(mapTo f k).length=k:=by simp [mapTo]
theorem mapTo_get (f:Nat→Nat) {k i:Nat} (h:i < k):(mapTo f k).getD i 0=(f i:Int):=by simp [mapTo,List.getD,h]
theorem znl (f:Nat→Nat) (k:Nat):mapTo f (k+1)=mapTo f k ++ [(f k:Int)]:=by simp [mapTo,List.range_succ]
theorem znm (f:Nat→Nat) (k:Nat):lastI (mapTo f (k+1))=(f k:Int):=by
 unfold lastI
 rw [zmc,Nat.add_sub_cancel,mapTo_get f (Nat.lt_succ_self k)]
theorem Emb.fit {s t:TStructure} {f:Nat→Nat} (h:Emb s t f) {k:Nat} (hk:k < s.nodes.length):fitB s t (mapTo f (k+1))=true:=by
 unfold fitB
 rw [znm,zmc,Nat.add_sub_cancel,Int.toNat_natCast,h.node k hk,Bool.true_and,List.all_eq_true]
 intro j hj
 have hj:=List.mem_range.1 hj
 unfold roundB
 rw [znm,zmc,mapTo_get f hj,show ((k+1:Nat):Int) - 1=(k:Int) by omega,h.next k j hk (by omega),h.next j k (by omega) hk,Bool.true_and,Bool.true_and,Bool.not_eq_true']
 by_cases h1:j+1 < k+1
 ·by_cases h2:f j=f k
  ·rw [Int.toNat_natCast,h.many j k (by omega) hk h2]
   simp
  ·rw [decide_eq_false (p:=((f j:Int)=(f k:Int))) (by omega)]
   simp
 ·rw [decide_eq_false h1]
  rfl
theorem Emb.find {s t:TStructure} {f:Nat→Nat} (h:Emb s t f):∀ m k,k+m=s.nodes.length→(findF s t m (mapTo f k)).2=true
 | 0,k,hk=>by
  show ontoB t (mapTo f k)=true
  unfold ontoB
  rw [List.all_eq_true]
  intro j hj
  obtain ⟨i,hi,rfl⟩:=h.onto j (List.mem_range.1 hj)
  rw [decide_eq_true_eq]
  exact List.mem_map.2 ⟨i,List.mem_range.2 (by omega),rfl⟩
 | m+1,k,hk=>by
  have hlt:k < s.nodes.length:=by omega
  have ih:=h.find m (k+1) (by omega)
  rw [znl] at ih
  unfold findF
  cases hf:(List.range t.nodes.length).findSome? (tryJ s t (findF s t m) (mapTo f k)) with
  | none =>
   exfalso
   rw [List.findSome?_eq_none_iff] at hf
   have:=hf (f k) (List.mem_range.2 (h.rng k hlt))
   unfold tryJ at this
   have hfit:=h.fit hlt
   rw [znl] at hfit
   rw [if_pos hfit,if_pos ih] at this
   cases this
  | some r =>
   obtain ⟨j,_,hj⟩:=List.exists_of_findSome?_eq_some hf
   unfold tryJ at hj
   split at hj
   ·split at hj
    ·cases hj;rfl
    ·cases hj
   ·cases hj
theorem Emb.is {s t:TStructure} {f:Nat→Nat} (h:Emb s t f):isEmb s t=true:=by
 unfold isEmb findE'
 have:=h.find s.nodes.length 0 (by omega)
 have e:mapTo f 0=[]:=rfl
 rw [e] at this
 simp only [this,if_true]
theorem znv {s t:TStructure}:∀ (m:Nat) (to:List Int),to.length+m=s.nodes.length→pre s t to→(findF s t m to).2=true→∃ to',pre s t to'∧to'.length=s.nodes.length∧ontoB t to'=true
 | 0,to,hl,hp,h=>⟨to,hp,by omega,h⟩
 | m+1,to,hl,hp,h=>by
  unfold findF at h
  split at h
  ·rename_i r hr
   obtain ⟨j,hj,hjr⟩:=List.exists_of_findSome?_eq_some hr
   unfold tryJ at hjr
   split at hjr
   ·rename_i hfit
    split at hjr
    ·rename_i h2
     exact znv m _ (by simp;omega) (pre_push hp (List.mem_range.1 hj) (by omega) hfit) h2
    ·cases hjr
   ·cases hjr
  ·cases h
theorem fit_last {s t:TStructure} {to:List Int} {i:Nat} (hi:i < to.length) (h:fitB s t (to.take (i+1))=true) (hr:∀ x∈to,0≤x) :
 nodeW (s.nodes.getD i zN) (t.nodes.getD (to.getD i 0).toNat zN)=true∧∀ k,k≤i→wB (nextV s i k) (nextV t (to.getD i 0) (to.getD k 0))=true∧wB (nextV s k i) (nextV t (to.getD k 0) (to.getD i 0))=true∧(k < i→to.getD k 0=to.getD i 0→(t.nodes.getD (to.getD i 0).toNat zN).many=1):=by
 have hl:(to.take (i+1)).length=i+1:=by rw [List.length_take];omega
 have hg:∀ k,k≤i→(to.take (i+1)).getD k 0=to.getD k 0:=fun k hk=>by
  simp only [List.getD_eq_getElem?_getD]
  rw [List.getElem?_take_of_lt (by omega)]
 have hla:lastI (to.take (i+1))=to.getD i 0:=by
  unfold lastI
  rw [hl,Nat.add_sub_cancel,hg i (Nat.le_refl i)]
 unfold fitB at h
 rw [hla,hl,Nat.add_sub_cancel,Bool.and_eq_true,List.all_eq_true] at h
 refine ⟨h.1,fun k hk=>?_⟩
 have:=h.2 k (List.mem_range.2 (by omega))
 unfold roundB at this
 rw [hla,hl,hg k hk,show ((i+1:Nat):Int) - 1=(i:Int) by omega] at this
 simp only [Bool.and_eq_true,Bool.not_eq_true'] at this
 refine ⟨this.1,this.2.1,fun h1 h2=>?_⟩
 have h3:=this.2.2
 rw [decide_eq_true (show k+1 < i+1 by omega),decide_eq_true h2] at h3
 simpa using h3
theorem emb_of {s t:TStructure} (h:isEmb s t=true):∃ f,Emb s t f:=by
 unfold isEmb findE' at h
 have h2:(findF s t s.nodes.length []).2=true:=by
  cases hb:(findF s t s.nodes.length []).2 with
  | true=>rfl
  | false=>simp [hb] at h
 obtain ⟨to,hp,hl,ho⟩:=znv s.nodes.length [] (by simp) (pre_nil s t) h2
 have hg:∀ i,i < s.nodes.length→0≤to.getD i 0∧to.getD i 0 < (t.nodes.length:Int):=fun i hi=>by
  have:to.getD i 0∈to:=by simp [List.getD,show i < to.length by omega]
  exact hp.2.1 _ this
 have hn:∀ i,i < s.nodes.length→(((to.getD i 0).toNat:Nat):Int)=to.getD i 0:=fun i hi=>by have:=hg i hi;omega
 have hr:∀ x∈to,0≤x:=fun x hx=>(hp.2.1 x hx).1
 have hfit:=fun i (hi:i < s.nodes.length)=>fit_last (s:=s) (t:=t) (to:=to) (i:=i) (by omega) (hp.2.2 i (by omega)) hr
 refine ⟨fun i=>(to.getD i 0).toNat,fun i hi=>by have:=hg i hi;show (to.getD i 0).toNat < _;omega,fun i hi=>(hfit i hi).1,fun i k hi hk=>?_,fun i k hik hk he=>?_,fun j hj=>?_⟩
 ·show wB (nextV s i k) (nextV t ((to.getD i 0).toNat:Nat) ((to.getD k 0).toNat:Nat))=true
  rw [hn i hi,hn k hk]
  rcases Nat.le_total k i with h1 | h1
  ·exact ((hfit i hi).2 k h1).1
  ·exact ((hfit k hk).2 i h1).2.1
 ·have he:(to.getD i 0).toNat=(to.getD k 0).toNat:=he
  have h1:=hg i (by omega)
  have h2:=hg k hk
  exact ((hfit k hk).2 i (by omega)).2.2 hik (by omega)
 ·unfold ontoB at ho
  rw [List.all_eq_true] at ho
  have:=ho j (List.mem_range.2 hj)
  rw [decide_eq_true_eq,List.mem_iff_getElem] at this
  obtain ⟨i,hi,he⟩:=this
  refine ⟨i,by omega,?_⟩
  show (to.getD i 0).toNat=j
  have:to.getD i 0=(j:Int):=by rw [← he];simp [List.getD,hi]
  rw [this,Int.toNat_natCast]
end Go.Ev


namespace Go.Ev
theorem zku {α β:Type} {F:α→β→Int}:∀ {l:List α} {r:List β} {i j:Nat} {a:α} {b:β},l[i]?=some a→r[j]?=some b→(l.flatMap fun a=>r.map (F a))[i * r.length+j]?=some (F a b)
 | [],r,i,j,a,b,h,_=>by simp at h
 | x :: l,r,0,j,a,b,h,h2=>by
  simp only [List.getElem?_cons_zero,Option.some.injEq] at h
  subst h
  have hj:j < r.length:=(List.getElem?_eq_some_iff.1 h2).1
  rw [List.flatMap_cons,Nat.zero_mul,Nat.zero_add,List.getElem?_append_left (by simpa using hj),List.getElem?_map,h2]
  rfl
 | x :: l,r,i+1,j,a,b,h,h2=>by
  have hj:j < r.length:=(List.getElem?_eq_some_iff.1 h2).1
  rw [List.getElem?_cons_succ] at h
  rw [List.flatMap_cons,List.getElem?_append_right (by rw [List.length_map,Nat.add_mul,Nat.one_mul];omega),List.length_map,show (i+1) * r.length+j - r.length=i * r.length+j by rw [Nat.add_mul,Nat.one_mul];omega]
  exact zku h h2
theorem grid_len {α β:Type} (F:α→β→Int) (l:List α) (r:List β):(l.flatMap fun a=>r.map (F a)).length=l.length * r.length:=zfk _ _ _ (fun x _=>by simp)
theorem zfp {s:TStructure} (hq:s.next.length=s.nodes.length * s.nodes.length) {i j:Nat} (hi:i < s.nodes.length) (hj:j < s.nodes.length):nextV s i j=s.next.getD (i * s.nodes.length+j) 0:=by
 unfold nextV
 rw [if_pos (by omega),if_pos (by omega),if_pos hq,← Int.natCast_mul,← Int.natCast_add,Int.toNat_natCast]
theorem setR_get (next:List Int) (base:Nat) (t:Int):∀ (m p:Nat),base+m≤next.length→(setR next base t m).getD p 0=if base≤p∧p < base+m then t3 (decide (((p - base:Nat):Int)=t)) else next.getD p 0
 | 0,p,_=>by rw [setR,if_neg (by omega)]
 | m+1,p,h=>by
  have ih:=setR_get next base t m p (by omega)
  simp only [List.getD_eq_getElem?_getD] at ih ⊢
  rw [setR,List.getElem?_set]
  by_cases hp:base+m=p
  ·subst hp
   rw [if_pos rfl,if_pos (by rw [zkp];omega),if_pos (by omega),show base+m - base=m by omega]
   rfl
  ·rw [if_neg hp,ih]
   by_cases h2:base≤p∧p < base+m
   ·rw [if_pos h2,if_pos (by omega)]
   ·rw [if_neg h2,if_neg (by omega)]
theorem zkq {s:TStructure} (hq:s.next.length=s.nodes.length * s.nodes.length) {b:Nat} (hb:b < s.nodes.length) (t:Int) {i j:Nat} (hi:i < s.nodes.length) (hj:j < s.nodes.length) :
 nextV (toF s b t) i j=if i=b then t3 (decide ((j:Int)=t)) else nextV s i j:=by
 have hn:=zfn s b t
 rw [zfp (by rw [hn,toF_next];exact hq) (by omega) (by omega),zfp hq hi hj,hn]
 show (setR s.next ((b:Int).toNat * s.nodes.length) t s.nodes.length).getD _ 0=_
 rw [Int.toNat_natCast]
 have hbn:(b+1) * s.nodes.length≤s.nodes.length * s.nodes.length:=Nat.mul_le_mul_right _ hb
 rw [Nat.add_mul,Nat.one_mul] at hbn
 rw [setR_get _ _ _ _ _ (by omega)]
 by_cases hib:i=b
 ·subst hib
  rw [if_pos (by omega),if_pos rfl,show i * s.nodes.length+j - i * s.nodes.length=j by omega]
 ·rw [if_neg hib,if_neg]
  rintro ⟨h1,h2⟩
  rcases Nat.lt_or_gt_of_ne hib with h | h
  ·have:=Nat.mul_le_mul_right s.nodes.length (show i+1≤b from h)
   rw [Nat.add_mul,Nat.one_mul] at this
   omega
  ·have:=Nat.mul_le_mul_right s.nodes.length (show b+1≤i from h)
   rw [Nat.add_mul,Nat.one_mul] at this
   omega
theorem zlz {s:TStructure} (t:Int) {i j:Nat} (hi:i < s.nodes.length+1) (hj:j < s.nodes.length+1):nextV (splitF s t) i j=nextV s (frm s.nodes.length t i) (frm s.nodes.length t j):=by
 have hn:=zay s t
 rw [zfp (zfh s t) (by omega) (by omega),hn]
 have:=zku (F:=fun i j=>nextV s (frm s.nodes.length t i) (frm s.nodes.length t j)) (l:=List.range (s.nodes.length+1)) (r:=List.range (s.nodes.length+1)) (i:=i) (j:=j) (a:=i) (b:=j) (by simp [hi]) (by simp [hj])
 rw [List.length_range] at this
 rw [List.getD_eq_getElem?_getD]
 show ((List.range (s.nodes.length+1)).flatMap fun i=>(List.range (s.nodes.length+1)).map fun j=>nextV s (frm s.nodes.length t i) (frm s.nodes.length t j))[_]?.getD 0=_
 rw [this]
 rfl
theorem zjn {s:TStructure} (b t:Int) (i:Nat) (ht:t < (s.nodes.length:Int)):(toF s b t).nodes.getD i zN=if (i:Int)=t then { s.nodes.getD i zN with many:=0 } else s.nodes.getD i zN:=by
 unfold toF
 simp only
 by_cases h0:0≤t
 ·rw [if_pos h0]
  simp only [List.getD_eq_getElem?_getD]
  rw [List.getElem?_set]
  by_cases hi:t.toNat=i
  ·subst hi
   rw [if_pos rfl,if_pos (by omega),if_pos (by omega)]
   rfl
  ·rw [if_neg hi,if_neg (by omega)]
 ·rw [if_neg h0,if_neg (by omega)]
theorem zjo {s:TStructure} (t:Int) (i:Nat):(splitF s t).nodes.getD i zN=if i=s.nodes.length then s.nodes.getD t.toNat zN else s.nodes.getD i zN:=by
 unfold splitF
 simp only [List.getD_eq_getElem?_getD]
 by_cases hi:i < s.nodes.length
 ·rw [List.getElem?_append_left hi,if_neg (by omega)]
 ·by_cases h2:i=s.nodes.length
  ·subst h2
   rw [List.getElem?_append_right (by omega),if_pos rfl]
   simp
  ·rw [if_neg h2,List.getElem?_eq_none (by simp;omega),List.getElem?_eq_none (by omega)]
theorem wB_iff {a b:Int}:wB a b=true ↔ (0≤a∧a≤2)∧(0≤b∧b≤2)∧(b=1∨a=b):=by
 unfold wB
 simp only [Bool.and_eq_true,Bool.or_eq_true,decide_eq_true_eq]
theorem t3_or (b:Bool):t3 b=0∨t3 b=2:=by cases b <;> simp [t3]
theorem wB_t3 (b:Bool):wB (t3 b) (t3 b)=true:=by cases b <;> rfl
theorem znk {x y:TNode} (h:nodeW x y=true) {m:Int} (hm:wB x.many m=true):nodeW x { y with many:=m }=true:=by
 unfold nodeW at h ⊢
 simp only [Bool.and_eq_true] at h ⊢
 exact ⟨h.1,h.2.1,h.2.2.1,hm⟩
structure FunS (g:TStructure):Prop where
 many:∀ i,i < g.nodes.length→(g.nodes.getD i zN).many=0
 val:∀ i j,i < g.nodes.length→j < g.nodes.length→nextV g i j=0∨nextV g i j=2
 one:∀ i j k,i < g.nodes.length→j < g.nodes.length→k < g.nodes.length→nextV g i j=2→nextV g i k=2→j=k
theorem emb_to {g t:TStructure} {f:Nat→Nat} (he:Emb g t f) (hg:FunS g) (hq:t.next.length=t.nodes.length * t.nodes.length) {u:Nat} (hu:u < g.nodes.length) (huq:∀ i,i < g.nodes.length→f i=f u→i=u) {tt:Int} (htt:tt < (t.nodes.length:Int))
 (h1:∀ j,j < g.nodes.length→nextV g u j=t3 (decide ((f j:Int)=tt))) (h3:∀ j k,j < g.nodes.length→k < g.nodes.length→(f j:Int)=tt→(f k:Int)=tt→j=k):Emb g (toF t (f u:Nat) tt) f:=by
 have hb:=he.rng u hu
 refine ⟨fun i hi=>by rw [zfn];exact he.rng i hi,fun i hi=>?_,fun i k hi hk=>?_,fun i k hik hk hf=>?_,fun j hj=>by rw [zfn] at hj;exact he.onto j hj⟩
 ·rw [zjn _ _ _ htt]
  split
  ·exact znk (he.node i hi) (by rw [hg.many i hi];rfl)
  ·exact he.node i hi
 ·rw [zkq hq hb tt (he.rng i hi) (he.rng k hk)]
  split
  ·rename_i hfi
   obtain rfl:=huq i hi hfi
   rw [h1 k hk]
   exact wB_t3 _
  ·exact he.next i k hi hk
 ·rw [zjn _ _ _ htt,if_neg]
  ·exact he.many i k hik hk hf
  ·intro hfk
   have:=h3 i k (by omega) hk (by rw [hf];exact hfk) hfk
   omega
theorem emb_split {g t:TStructure} {f:Nat→Nat} (he:Emb g t f) (hg:FunS g) {u j0 j1:Nat} (hu:u < g.nodes.length) (huq:∀ i,i < g.nodes.length→f i=f u→i=u) (hj0:j0 < g.nodes.length) (hj1:j1 < g.nodes.length) (hne:j1≠j0) (hf1:f j1=f j0)
 (h2:nextV g u j0=2):Emb g (toF (splitF t (f j0:Nat)) (f u:Nat) (t.nodes.length:Nat)) fun i=>if i=j0 then t.nodes.length else f i:=by
 have hb:=he.rng u hu
 have hn:=zay t (f j0:Nat)
 have h0:=he.rng j0 hj0
 have hju:j0≠u:=by
  rintro rfl
  exact hne (huq j1 hj1 hf1)
 have hlt:∀ i,i < g.nodes.length→(if i=j0 then t.nodes.length else f i) < t.nodes.length+1:=fun i hi=>by
  split
  ·omega
  ·have:=he.rng i hi;omega
 have hfrm:∀ i,i < g.nodes.length→frm t.nodes.length (f j0:Nat) (if i=j0 then t.nodes.length else f i)=(f i:Int):=fun i hi=>by
  unfold frm
  split
  ·rename_i h
   subst h
   rw [if_pos rfl]
  ·have:=he.rng i hi
   rw [if_neg (by omega)]
 refine ⟨fun i hi=>by rw [zfn,hn];exact hlt i hi,fun i hi=>?_,fun i k hi hk=>?_,fun i k hik hk hf=>?_,fun j hj=>?_⟩
 ·rw [zjn _ _ _ (by rw [hn];omega),zjo]
  by_cases h:i=j0
  ·subst h
   simp only [if_true]
   rw [Int.toNat_natCast]
   exact znk (he.node i hi) (by rw [hg.many i hi];rfl)
  ·have:=he.rng i hi
   simp only [if_neg h]
   rw [if_neg (by omega),if_neg (by omega)]
   exact he.node i hi
 ·rw [zkq (zfh _ _) (by rw [hn];omega) _ (by rw [hn];exact hlt i hi) (by rw [hn];exact hlt k hk),zlz _ (hlt i hi) (hlt k hk),hfrm i hi,hfrm k hk]
  by_cases hi2:(if i=j0 then t.nodes.length else f i)=f u
  ·rw [if_pos hi2]
   have hiu:i=u:=by
    by_cases h:i=j0
    ·rw [if_pos h] at hi2;omega
    ·rw [if_neg h] at hi2;exact huq i hi hi2
   subst hiu
   by_cases hk0:k=j0
   ·subst hk0
    simp only [if_true,decide_true,h2]
    rfl
   ·have hv:nextV g i k=0:=by
     rcases hg.val i k hi hk with h | h
     ·exact h
     ·exact absurd (hg.one i k j0 hi hk hj0 h h2) hk0
    have:=he.rng k hk
    rw [if_neg hk0,hv,decide_eq_false (by omega)]
    rfl
  ·rw [if_neg hi2]
   exact he.next i k hi hk
 ·have e1:i≠j0:=by
   rintro rfl
   have:=he.rng k hk
   simp only [if_true] at hf
   rw [if_neg (by omega)] at hf
   omega
  have e2:k≠j0:=by
   rintro rfl
   have:=he.rng i (by omega)
   simp only [if_true] at hf
   rw [if_neg e1] at hf
   omega
  simp only [if_neg e1,if_neg e2] at hf ⊢
  have:=he.rng k hk
  rw [zjn _ _ _ (by rw [hn];omega),zjo,if_neg (by omega),if_neg (by omega)]
  exact he.many i k hik hk hf
 ·rw [zfn,hn] at hj
  by_cases hjn:j=t.nodes.length
  ·exact ⟨j0,hj0,by simp [hjn]⟩
  ·obtain ⟨i,hi,hfi⟩:=he.onto j (by omega)
   by_cases h:i=j0
   ·subst h
    exact ⟨j1,hj1,by simp only [if_neg hne];rw [hf1,hfi]⟩
   ·exact ⟨i,hi,by simp only [if_neg h];exact hfi⟩
theorem zju {s:TStructure} {b:Int}:∀ (ts:List Int) (acc:List TStructure),casesL s b ts acc=[s]∨((∀ x∈acc,x∈casesL s b ts acc)∧∀ t∈ts,toF s b t∈casesL s b ts acc∧((s.nodes.getD t.toNat zN).many=1→toF (splitF s t) b s.nodes.length∈casesL s b ts acc))
 | [],acc=>.inr ⟨fun x hx=>hx,fun t ht=>by cases ht⟩
 | t :: ts,acc=>by
  rw [casesL]
  split
  ·split
   ·exact .inl rfl
   ·rcases zju ts (acc ++ [toF s b t] ++ [toF (splitF s t) b s.nodes.length]) with h | ⟨h1,h2⟩
    ·exact .inl h
    ·refine .inr ⟨fun x hx=>h1 x (by simp [hx]),fun t' ht=>?_⟩
     rcases List.mem_cons.1 ht with rfl | ht
     ·exact ⟨h1 _ (by simp),fun _=>h1 _ (by simp)⟩
     ·exact h2 t' ht
  ·rename_i hm
   rcases zju ts (acc ++ [toF s b t]) with h | ⟨h1,h2⟩
   ·exact .inl h
   ·refine .inr ⟨fun x hx=>h1 x (by simp [hx]),fun t' ht=>?_⟩
    rcases List.mem_cons.1 ht with rfl | ht
    ·exact ⟨h1 _ (by simp),fun h=>absurd h hm⟩
    ·exact h2 t' ht
theorem zik {s:TStructure} {b:Int} {x:TStructure}:∀ (ts:List Int) (acc:List TStructure),x∈casesL s b ts acc→x=s∨x∈acc∨∃ t∈ts,x=toF s b t∨((s.nodes.getD t.toNat zN).many=1∧x=toF (splitF s t) b s.nodes.length)
 | [],acc,h=>.inr (.inl h)
 | t :: ts,acc,h=>by
  rw [casesL] at h
  split at h
  ·rename_i hm
   split at h
   ·exact .inl (List.mem_singleton.1 h)
   ·rcases zik ts _ h with h | h | ⟨t',ht,h⟩
    ·exact .inl h
    ·simp only [List.mem_append,List.mem_singleton] at h
     rcases h with (h | h) | h
     ·exact .inr (.inl h)
     ·exact .inr (.inr ⟨t,List.mem_cons_self ..,.inl h⟩)
     ·exact .inr (.inr ⟨t,List.mem_cons_self ..,.inr ⟨hm,h⟩⟩)
    ·exact .inr (.inr ⟨t',List.mem_cons_of_mem _ ht,h⟩)
  ·rcases zik ts _ h with h | h | ⟨t',ht,h⟩
   ·exact .inl h
   ·simp only [List.mem_append,List.mem_singleton] at h
    rcases h with h | h
    ·exact .inr (.inl h)
    ·exact .inr (.inr ⟨t,List.mem_cons_self ..,.inl h⟩)
   ·exact .inr (.inr ⟨t',List.mem_cons_of_mem _ ht,h⟩)
theorem tgt_iff {s:TStructure} {b t:Int}:t∈tgtF s b ↔ ∃ j:Nat,j < s.nodes.length∧t=(j:Int)∧nextV s b j≠0:=by
 unfold tgtF
 rw [List.mem_flatMap]
 constructor
 ·rintro ⟨j,hj,h⟩
  split at h
  ·cases h
  ·rename_i h0
   exact ⟨j,List.mem_range.1 hj,List.mem_singleton.1 h,h0⟩
 ·rintro ⟨j,hj,rfl,h0⟩
  exact ⟨j,List.mem_range.2 hj,by rw [if_neg h0];simp⟩
theorem cell_many {s:TStructure} {k:Int} (h:¬ cellF s k < 0):∃ b:Nat,cellF s k=(b:Int)∧b < s.nodes.length∧(s.nodes.getD b zN).many=0:=by
 unfold cellF at h ⊢
 cases hj:s.nodes.findIdx? (cellP k) with
 | some j =>
  have hj':=hj
  rw [List.findIdx?_eq_some_iff_getElem] at hj'
  obtain ⟨hl,hp,_⟩:=hj'
  refine ⟨j,rfl,hl,?_⟩
  unfold cellP at hp
  simp only [Bool.and_eq_true,decide_eq_true_eq] at hp
  have:s.nodes.getD j zN=s.nodes[j]:=by simp [List.getD,hl]
  rw [this]
  exact hp.2.2
 | none =>
  rw [hj] at h
  exact absurd (show (-1:Int) < 0 by omega) h
theorem focus_sound {g t:TStructure} {f:Nat→Nat} (he:Emb g t f) (hg:FunS g) (ht:shortS t) (k:Int):∃ x∈focF t k,isEmb g x=true:=by
 unfold focF
 by_cases hb:cellF t k < 0
 ·rw [if_pos hb]
  exact ⟨t,by simp,he.is⟩
 rw [if_neg hb]
 by_cases hs:isStrB (varsF t) t=true
 rotate_left
 ·rw [if_neg hs]
  exact ⟨t,by simp,he.is⟩
 rw [if_pos hs]
 have F:=foc_of ht hb hs
 obtain ⟨b,hbe,hbl,hbm⟩:=cell_many hb
 rw [hbe] at F ⊢
 have hq:=F.sq
 obtain ⟨u,hu,hfu⟩:=he.onto b hbl
 subst hfu
 have huq:∀ i,i < g.nodes.length→f i=f u→i=u:=fun i hi hf=>by
  rcases Nat.lt_trichotomy i u with h | h | h
  ·have:=he.many i u h hu hf
   omega
  ·exact h
  ·have:=he.many u i h hi hf.symm
   rw [hf] at this
   omega
 cases hfind:(tgtF t (f u:Nat)).find? fun x=>decide (nextV t (f u:Nat) x=2) with
 | some t0 =>
  simp only
  have hm:=List.mem_of_find?_eq_some hfind
  have h2:=List.find?_some hfind
  rw [decide_eq_true_eq] at h2
  obtain ⟨tn,htl,rfl,_⟩:=tgt_iff.1 hm
  obtain ⟨j0,hj0,hfj0⟩:=he.onto tn htl
  have hall:∀ j,j < g.nodes.length→f j=tn→nextV g u j=2:=fun j hj hf=>by
   have:=he.next u j hu hj
   rw [hf,h2,wB_iff] at this
   omega
  have hx:=emb_to he hg hq hu huq (tt:=(tn:Int)) (by omega) (fun j hj=>by
   by_cases hf:f j=tn
   ·rw [hall j hj hf,decide_eq_true (by omega)];rfl
   ·rw [decide_eq_false (by omega)]
    rcases hg.val u j hu hj with h | h
    ·exact h
    ·have:=hg.one u j j0 hu hj hj0 h (hall j0 hj0 hfj0)
     exact absurd (this ▸ hfj0) hf) (fun j k hj hk e1 e2=>hg.one u j k hu hj hk (hall j hj (by omega)) (hall k hk (by omega)))
  exact ⟨_,List.mem_singleton.2 rfl,hx.is⟩
 | none =>
  simp only
  rcases zju (s:=t) (b:=(f u:Nat)) (tgtF t (f u:Nat)) [toF t (f u:Nat) (-1)] with h | ⟨h1,h2⟩
  ·rw [h]
   exact ⟨t,by simp,he.is⟩
  ·by_cases hex:∃ j0,j0 < g.nodes.length∧nextV g u j0=2
   ·obtain ⟨j0,hj0,hv⟩:=hex
    have hmem:((f j0:Nat):Int)∈tgtF t (f u:Nat):=tgt_iff.2 ⟨f j0,he.rng j0 hj0,rfl,fun h=>by
     have:=he.next u j0 hu hj0
     rw [hv,h,wB_iff] at this
     omega⟩
    obtain ⟨m1,m2⟩:=h2 _ hmem
    by_cases hj1:∃ j1,j1 < g.nodes.length∧j1≠j0∧f j1=f j0
    ·obtain ⟨j1,hj1,hne,hf1⟩:=hj1
     have hx:=emb_split he hg hu huq hj0 hj1 hne hf1 hv
     refine ⟨_,m2 ?_,hx.is⟩
     rw [Int.toNat_natCast]
     rcases Nat.lt_or_gt_of_ne hne with h | h
     ·exact he.many j1 j0 h hj0 hf1
     ·rw [← hf1];exact he.many j0 j1 h hj1 hf1.symm
    ·have huniq:∀ j,j < g.nodes.length→f j=f j0→j=j0:=fun j hj hf=>by
      rcases Nat.lt_trichotomy j j0 with h | h | h
      ·exact absurd ⟨j,hj,by omega,hf⟩ hj1
      ·exact h
      ·exact absurd ⟨j,hj,by omega,hf⟩ hj1
     have hx:=emb_to he hg hq hu huq (tt:=(f j0:Nat)) (by have:=he.rng j0 hj0;omega) (fun j hj=>by
      by_cases hjj:j=j0
      ·subst hjj;rw [hv,decide_eq_true rfl];rfl
      ·have:f j≠f j0:=fun h=>hjj (huniq j hj h)
       rw [decide_eq_false (by omega)]
       rcases hg.val u j hu hj with h | h
       ·exact h
       ·exact absurd (hg.one u j j0 hu hj hj0 h hv) hjj) (fun j k hj hk e1 e2=>by rw [huniq j hj (by omega),huniq k hk (by omega)])
     exact ⟨_,m1,hx.is⟩
   ·have hx:=emb_to he hg hq hu huq (tt:=-1) (by omega) (fun j hj=>by
     rw [decide_eq_false (by omega)]
     rcases hg.val u j hu hj with h | h
     ·exact h
     ·exact absurd ⟨j,hj,h⟩ hex) (fun j k hj hk e1 e2=>by omega)
    exact ⟨_,h1 _ (by simp),hx.is⟩
theorem zmz {xs:List Int} (h:truthsB xs=true) (i:Nat) (hi:i < xs.length):0≤xs.getD i 0∧xs.getD i 0≤2:=by
 unfold truthsB at h
 rw [List.all_eq_true] at h
 have hm:xs.getD i 0∈xs:=by simp [List.getD,hi]
 have:=h _ hm
 simpa using this
theorem zno {xs:List Int} (h:truthsB xs=true):listW xs xs=true:=by
 unfold listW
 rw [decide_eq_true rfl,Bool.true_and,List.all_eq_true]
 intro i hi
 have:=zmz h i (List.mem_range.1 hi)
 rw [wB_iff]
 omega
structure StrOK (s:TStructure):Prop where
 sq:s.next.length=s.nodes.length * s.nodes.length
 next:∀ i j,i < s.nodes.length→j < s.nodes.length→0≤nextV s i j∧nextV s i j≤2
 node:∀ i,i < s.nodes.length→nodeW (s.nodes.getD i zN) (s.nodes.getD i zN)=true
 many:∀ i,i < s.nodes.length→0≤(s.nodes.getD i zN).many∧(s.nodes.getD i zN).many≤1
theorem strOK_of {v:Int} {s:TStructure} (h:isStrB v s=true):StrOK s:=by
 unfold isStrB at h
 simp only [Bool.and_eq_true,decide_eq_true_eq,List.all_eq_true] at h
 obtain ⟨_,_,hq,ht,hn⟩:=h
 have hk:∀ i,i < s.nodes.length→nodeOkB v (s.nodes.getD i zN)=true:=fun i hi=>hn _ (by simp [List.getD,hi])
 refine ⟨hq,fun i j hi hj=>?_,fun i hi=>?_,fun i hi=>?_⟩
 ·rw [zfp hq hi hj]
  refine zmz ht _ ?_
  have:=Nat.mul_le_mul_right s.nodes.length (show i+1≤s.nodes.length from hi)
  rw [Nat.add_mul,Nat.one_mul] at this
  omega
 ·have:=hk i hi
  unfold nodeOkB at this
  simp only [Bool.and_eq_true,decide_eq_true_eq] at this
  obtain ⟨_,_,h1,h2,h3,h4⟩:=this
  unfold nodeW
  simp only [Bool.and_eq_true]
  exact ⟨zno h1,zno h2,wB_iff.2 (by omega),wB_iff.2 (by omega)⟩
 ·have:=hk i hi
  unfold nodeOkB at this
  simp only [Bool.and_eq_true,decide_eq_true_eq] at this
  exact this.2.2.2.2.2
theorem znj {x y:TNode} (h:nodeW x y=true) (hm:0≤y.many∧y.many≤1):nodeW { x with many:=0 } y=true:=by
 unfold nodeW at h ⊢
 simp only [Bool.and_eq_true] at h ⊢
 exact ⟨h.1,h.2.1,h.2.2.1,wB_iff.2 (by omega)⟩
theorem emb_self {s:TStructure} (h:StrOK s):Emb s s id where
 rng i hi:=hi
 node i hi:=h.node i hi
 next i k hi hk:=by have:=h.next i k hi hk;show wB (nextV s i k) (nextV s i k)=true;rw [wB_iff];omega
 many i k hik _ hf:=by have hf:i=k:=hf;omega
 onto j hj:=⟨j,hj,rfl⟩
theorem to_in {s:TStructure} (h:StrOK s) {b:Nat} (hb:b < s.nodes.length) {t:Int} (ht:t < (s.nodes.length:Int)) (h1:∀ j:Nat,j < s.nodes.length→wB (t3 (decide ((j:Int)=t))) (nextV s b j)=true):Emb (toF s b t) s id:=by
 have hn:=zfn s b t
 refine ⟨fun i hi=>by rw [hn] at hi;exact hi,fun i hi=>?_,fun i k hi hk=>?_,fun i k hik _ hf=>by have hf:i=k:=hf;omega,fun j hj=>⟨j,by rw [hn];exact hj,rfl⟩⟩
 ·rw [hn] at hi
  rw [zjn _ _ _ ht]
  split
  ·exact znj (h.node i hi) (h.many i hi)
  ·exact h.node i hi
 ·rw [hn] at hi hk
  rw [zkq h.sq hb t hi hk]
  split
  ·rename_i hib
   subst hib
   exact h1 k hk
  ·have:=h.next i k hi hk
   show wB (nextV s i k) (nextV s i k)=true
   rw [wB_iff]
   omega
theorem split_in {s:TStructure} (h:StrOK s) {b t0:Nat} (hb:b < s.nodes.length) (ht:t0 < s.nodes.length) (hm:(s.nodes.getD t0 zN).many=1) (h1:nextV s b t0=1) (h2:∀ j:Nat,j < s.nodes.length→nextV s b j≠2) :
 Emb (toF (splitF s (t0:Nat)) b (s.nodes.length:Nat)) s fun i=>if i=s.nodes.length then t0 else i:=by
 have hn:=zfn (splitF s (t0:Nat)) b (s.nodes.length:Nat)
 rw [zay] at hn
 have hlt:∀ i,i < s.nodes.length+1→(if i=s.nodes.length then t0 else i) < s.nodes.length:=fun i hi=>by split <;> omega
 have hfrm:∀ i,frm s.nodes.length (t0:Nat) i=((if i=s.nodes.length then t0 else i:Nat):Int):=fun i=>by unfold frm;split <;> rfl
 refine ⟨fun i hi=>by rw [hn] at hi;exact hlt i hi,fun i hi=>?_,fun i k hi hk=>?_,fun i k hik hk hf=>?_,fun j hj=>⟨j,by rw [hn];omega,if_neg (by omega)⟩⟩
 ·rw [hn] at hi
  rw [zjn _ _ _ (by rw [zay];omega),zjo]
  by_cases hi2:i=s.nodes.length
  ·subst hi2
   simp only [if_true]
   rw [Int.toNat_natCast]
   exact znj (h.node t0 ht) (h.many t0 ht)
  ·simp only [if_neg hi2]
   rw [if_neg (by omega)]
   exact h.node i (by omega)
 ·rw [hn] at hi hk
  rw [zkq (zfh _ _) (by rw [zay];omega) _ (by rw [zay];exact hi) (by rw [zay];exact hk),zlz _ hi hk,hfrm,hfrm]
  have hv:=h.next _ _ (hlt i hi) (hlt k hk)
  by_cases hib:i=b
  ·rw [if_pos hib]
   subst hib
   simp only [if_neg (show i≠s.nodes.length by omega)] at hv ⊢
   by_cases hk2:k=s.nodes.length
   ·subst hk2
    simp only [if_true,h1,decide_true]
    rfl
   ·simp only [if_neg hk2] at hv ⊢
    rw [decide_eq_false (by omega)]
    have:=h2 k (by omega)
    show wB 0 _=true
    rw [wB_iff]
    omega
  ·rw [if_neg hib,wB_iff]
   omega
 ·rw [hn] at hk
  have hf:(if i=s.nodes.length then t0 else i)=if k=s.nodes.length then t0 else k:=hf
  show (s.nodes.getD (if k=s.nodes.length then t0 else k) zN).many=1
  rw [if_neg (show i≠s.nodes.length by omega)] at hf
  by_cases hk2:k=s.nodes.length
  ·rw [if_pos hk2];exact hm
  ·rw [if_neg hk2] at hf;omega
theorem focus_in {s:TStructure} (hs:shortS s) (h:StrOK s) (ho:∀ i j k,i < s.nodes.length→j < s.nodes.length→k < s.nodes.length→nextV s i j=2→nextV s i k=2→j=k) (k:Int):∀ x∈focF s k,isEmb x s=true:=by
 intro x hx
 have hself:=(emb_self h).is
 unfold focF at hx
 by_cases hb:cellF s k < 0
 ·rw [if_pos hb,List.mem_singleton] at hx
  subst hx
  exact hself
 rw [if_neg hb] at hx
 by_cases hst:isStrB (varsF s) s=true
 rotate_left
 ·rw [if_neg hst,List.mem_singleton] at hx
  subst hx
  exact hself
 rw [if_pos hst] at hx
 obtain ⟨b,hbe,hbl,hbm⟩:=cell_many hb
 rw [hbe] at hx
 cases hfind:(tgtF s (b:Nat)).find? fun x=>decide (nextV s (b:Nat) x=2) with
 | some t0 =>
  rw [hfind] at hx
  simp only [List.mem_singleton] at hx
  subst hx
  have hm:=List.mem_of_find?_eq_some hfind
  have h2:=List.find?_some hfind
  rw [decide_eq_true_eq] at h2
  obtain ⟨tn,htl,rfl,_⟩:=tgt_iff.1 hm
  refine (to_in h hbl (by omega) fun j hj=>?_).is
  have hv:=h.next b j hbl hj
  by_cases hjt:j=tn
  ·subst hjt
   rw [decide_eq_true rfl,h2]
   rfl
  ·rw [decide_eq_false (by omega)]
   have:nextV s b j≠2:=fun h2'=>hjt (ho b j tn hbl hj htl h2' h2)
   show wB 0 _=true
   rw [wB_iff]
   omega
 | none =>
  rw [hfind] at hx
  simp only at hx
  have hno:∀ j:Nat,j < s.nodes.length→nextV s b j≠2:=fun j hj h2=>by
   rw [List.find?_eq_none] at hfind
   have:=hfind (j:Int) (tgt_iff.2 ⟨j,hj,rfl,by omega⟩)
   rw [decide_eq_true_eq] at this
   exact this h2
  rcases zik _ _ hx with rfl | hx | ⟨t,ht,hx⟩
  ·exact hself
  ·simp only [List.mem_singleton] at hx
   subst hx
   refine (to_in h hbl (by omega) fun j hj=>?_).is
   have hv:=h.next b j hbl hj
   have:=hno j hj
   rw [decide_eq_false (by omega)]
   show wB 0 _=true
   rw [wB_iff]
   omega
  ·obtain ⟨tn,htl,rfl,h0⟩:=tgt_iff.1 ht
   have hv1:nextV s b tn=1:=by
    have:=h.next b tn hbl htl
    have:=hno tn htl
    omega
   rcases hx with rfl | ⟨hm,rfl⟩
   ·refine (to_in h hbl (by omega) fun j hj=>?_).is
    have hv:=h.next b j hbl hj
    by_cases hjt:j=tn
    ·subst hjt
     rw [decide_eq_true rfl,hv1]
     rfl
    ·rw [decide_eq_false (by omega)]
     have:=hno j hj
     show wB 0 _=true
     rw [wB_iff]
     omega
   ·rw [Int.toNat_natCast] at hm
    exact (split_in h hbl htl hm hv1 hno).is
end Go.Ev


namespace Go.Ev
structure CurOK (c:TL1Cur):Prop where
 lo:0≤c.i
 len:c.b.length≤1048576
theorem at_ex {α:Type} {xs:List α} {n:Int} (h0:0≤n) (h1:n < (xs.length:Int)):∃ x,at? xs n=some x:=by
 unfold at?
 rw [if_pos h0]
 exact ⟨_,List.getElem?_eq_getElem (by omega)⟩
theorem byte_ok {c:TL1Cur} (h:CurOK c):Tot (zcq c) fun y=>(0≤y.1∧y.1 < 256)∧CurOK y.2:=by
 unfold zcq
 have h1:=h.lo
 have h2:=h.len
 rw [zdp]
 split
 ·rename_i hi
  obtain ⟨e,he⟩:=at_ex h1 hi
  rw [he,Option.bind_some]
  refine Tot.ret ⟨andI_255 _,⟨?_,h2⟩⟩
  show 0≤addI c.i 1
  rw [zam (by omega) (by omega)]
  omega
 ·exact Tot.ret ⟨andI_255 _,⟨h1,h2⟩⟩
theorem zdg {c:TL1Cur} (h:CurOK c) {n:Int} (hn:1≤n∧n≤256):Tot (zan c n) fun y=>(0≤y.1∧y.1 < n)∧CurOK y.2:=by
 unfold zan
 simp only [leI,zaf]
 rw [if_neg (by omega),if_pos hn.2]
 refine Tot.bind (byte_ok h) fun y hy=>?_
 unfold remQ
 rw [if_neg (by omega),Option.bind_some]
 exact Tot.ret ⟨⟨Int.tmod_nonneg _ hy.1.1,Int.tmod_lt_of_pos _ (by omega)⟩,hy.2⟩
theorem zlv {c:TL1Cur} (h:CurOK c) {n:Int} (hn:1≤n∧n≤256):Tot (zcp c n) fun y=>CurOK y.2:=by
 unfold zcp
 exact Tot.bind (zdg h hn) fun y hy=>Tot.ret hy.2
theorem zhs {c:TL1Cur} (h:CurOK c) {l:List Int} (hl:1≤l.length∧l.length≤256):Tot (zbk c l) fun y=>y.1∈l∧CurOK y.2:=by
 unfold zbk
 refine Tot.bind (zdg h (by omega)) fun y hy=>?_
 obtain ⟨e,he⟩:=at_ex hy.1.1 hy.1.2
 rw [he,Option.bind_some]
 refine Tot.ret ⟨?_,hy.2⟩
 unfold at? at he
 rw [if_pos hy.1.1] at he
 exact List.mem_of_getElem? he
theorem new_ok {code:List U8} (h:code.length≤1048576):Tot (zeo code) CurOK:=by
 unfold zeo
 refine Tot.bind (P:=fun _=>True) (Tot.loop (fun i s=>s.2=(i:Int)) code.length rfl fun i s hI hi=>?_) fun r _=>Tot.ret ⟨Int.le_refl _,h⟩
 rw [zdp]
 split
 ·rename_i hlt
  rw [zdp]
  split
  ·obtain ⟨e,he⟩:=at_ex (xs:=code) (n:=s.2) (by omega) hlt
   rw [he,Option.bind_some]
   refine Tot.ret ⟨by omega,?_⟩
   show addI s.2 1=_
   rw [zam (by omega) (by omega),hI]
   omega
  ·exact Tot.ret trivial
 ·exact Tot.ret trivial
theorem draw7_ok {c:TL1Cur} (h:CurOK c) {v:Int} (hv:0≤v∧v≤10):Tot (zdy c v) fun y=>okH y.1∧((y.1.vars.length:Int)=v∨y.1.vars.length=0)∧CurOK y.2:=by
 unfold zdy
 refine Tot.bind (zdg h (by omega)) fun y hy=>?_
 refine Tot.bind (P:=fun r=>CurOK ⟨r.1,r.2.1,r.2.2.1⟩∧r.2.2.2.length≤5) (Tot.loop (fun i s=>s.1=(i:Int)∧CurOK ⟨s.2.1,s.2.2.1,s.2.2.2.1⟩∧s.2.2.2.2.length=i∧i≤5) 5 ⟨rfl,hy.2,rfl,by omega⟩ fun i s hI hi=>?_) fun r hr=>?_
 ·obtain ⟨h1,h2,h3,h4⟩:=hI
  rw [zdp]
  split
  ·rename_i hlt
   refine Tot.bind (zlv h2 (by omega)) fun z hz=>?_
   cases z.1
   ·simp only [cond_false]
    rw [zal (by simp;omega) (by omega),Option.bind_some]
    refine Tot.ret ⟨by omega,?_,hz,by simp [h3],by omega⟩
    show addI s.1 1=_
    rw [zam (by omega) (by omega),h1];omega
   ·simp only [cond_true]
    rw [zam (by omega) (by omega)]
    refine Tot.bind (zdg hz (by omega)) fun u hu=>?_
    rw [zal (by simp;omega) (by omega),Option.bind_some]
    refine Tot.ret ⟨by omega,?_,hu.2,by simp [h3],by omega⟩
    show s.1+1=_
    omega
  ·exact Tot.ret ⟨h2,by show s.2.2.2.2.length≤5;omega⟩
 ·obtain ⟨hc,hl⟩:=hr
  refine Tot.bind (P:=fun r=>CurOK ⟨r.1,r.2.1,r.2.2.1⟩∧(r.2.2.2.length:Int)=v) (Tot.loop (fun i s=>s.1=(i:Int)∧CurOK ⟨s.2.1,s.2.2.1,s.2.2.2.1⟩∧s.2.2.2.2.length=i∧(i:Int)≤v) v.toNat ⟨rfl,hc,rfl,by omega⟩ fun i s hI hi=>?_) fun r2 hr2=>?_
  ·obtain ⟨h1,h2,h3,h4⟩:=hI
   rw [zdp]
   split
   ·rename_i hlt
    rw [zam (by omega) (by omega)]
    refine Tot.bind (zdg h2 (by omega)) fun z hz=>?_
    simp only [eqI,zaf]
    rw [zam (by omega) (by omega)]
    split
    ·refine Tot.bind (zlv hz.2 (by omega)) fun u hu=>?_
     cases u.1
     ·simp only [cond_false]
      rw [zal (by simp;omega) (by omega),Option.bind_some]
      exact Tot.ret ⟨by omega,by show s.1+1=_;omega,hu,by simp [h3],by omega⟩
     ·simp only [cond_true]
      rw [zal (by simp;omega) (by omega),Option.bind_some]
      exact Tot.ret ⟨by omega,by show s.1+1=_;omega,hu,by simp [h3],by omega⟩
    ·rw [zal (by simp;omega) (by omega),Option.bind_some]
     exact Tot.ret ⟨by omega,by show s.1+1=_;omega,hz.2,by simp [h3],by omega⟩
   ·exact Tot.ret ⟨h2,by show ((s.2.2.2.2.length:Nat):Int)=v;omega⟩
  ·have hok:okH ⟨r2.2.2.2,r.2.2.2⟩:=⟨by have:=hr2.2;show r2.2.2.2.length≤100;omega,by show r.2.2.2.length≤100;omega⟩
   rw [spec_canon _ hok,Option.bind_some]
   have hcl:=canF_len ⟨r2.2.2.2,r.2.2.2⟩
   refine Tot.ret ⟨⟨Nat.le_trans hcl.1 hok.1,Nat.le_trans hcl.2 hok.2⟩,?_,hr2.1⟩
   show ((canF _).vars.length:Int)=v∨(canF _).vars.length=0
   unfold canF
   split
   ·exact .inl (by rw [List.length_map];exact hr2.2)
   ·exact .inr rfl

structure Inv (s:TStructure):Prop where
 n:s.nodes.length≤10
 e:∀ y∈s.nodes,y.vars.length=3∧y.reach.length=3
 sq:s.next.length=s.nodes.length * s.nodes.length
 one:∀ i j k,i < s.nodes.length→j < s.nodes.length→k < s.nodes.length→nextV s i j=2→nextV s i k=2→j=k
theorem Inv.sq10 {s:TStructure} (h:Inv s):s.next.length≤100:=by
 have:=Nat.mul_le_mul h.n h.n
 have:=h.sq
 omega
theorem Inv.sm {s:TStructure} (h:Inv s):Sm.sm s:=⟨⟨by have:=h.n;omega,fun y hy=>⟨⟨by have:=(h.e y hy).1;omega,fun _ _=>trivial⟩,⟨by have:=(h.e y hy).2;omega,fun _ _=>trivial⟩⟩⟩,⟨by have:=h.sq10;omega,fun _ _=>trivial⟩⟩
theorem inv_nil:Inv ⟨[],[]⟩:=⟨by simp,by simp,rfl,fun i j k hi=>by simp at hi⟩
theorem zma {s t:TStructure} (hn:s.nodes.length=t.nodes.length) (hx:s.next=t.next) (i j:Int):nextV s i j=nextV t i j:=by
 unfold nextV
 rw [hn,hx]
theorem zoe {h:THeap} {i j:Nat} (hi:i < (strOf h).nodes.length) (hj:j < (strOf h).nodes.length):nextV (strOf h) i j=t3 (decide (h.next.getD i 0=(j:Int))):=by
 have hs:strOf h=⟨(List.range h.next.length).map (nodeOf h),(List.range h.next.length).flatMap (arrowsOf h)⟩:=by
  unfold strOf at hi ⊢
  split
  ·split
   ·split
    ·rfl
    ·rename_i h1 h2 h3;simp [h1,h2,h3] at hi
   ·rename_i h1 h2;simp [h1,h2] at hi
  ·rename_i h1;simp [h1] at hi
 rw [hs] at hi hj ⊢
 have hl:((List.range h.next.length).map (nodeOf h)).length=h.next.length:=by simp
 simp only [hl] at hi hj
 rw [zfp (by simp only [hl];rw [zjw]) (by simp only [hl];exact hi) (by simp only [hl];exact hj)]
 simp only [hl]
 have:=zku (F:=fun (i j:Nat)=>t3 (decide (h.next.getD i 0=(j:Int)))) (l:=List.range h.next.length) (r:=List.range h.next.length) (i:=i) (j:=j) (a:=i) (b:=j) (by simp [hi]) (by simp [hj])
 rw [List.length_range] at this
 rw [List.getD_eq_getElem?_getD]
 show ((List.range h.next.length).flatMap fun i=>(List.range h.next.length).map fun j:Nat=>t3 (decide (h.next.getD i 0=(j:Int))))[_]?.getD 0=_
 rw [this]
 rfl
theorem t3_two {b:Bool}:t3 b=2 ↔ b=true:=by cases b <;> simp [t3]
theorem str_one {h:THeap} (i j k:Nat) (hi:i < (strOf h).nodes.length) (hj:j < (strOf h).nodes.length) (hk:k < (strOf h).nodes.length) (h1:nextV (strOf h) i j=2) (h2:nextV (strOf h) i k=2):j=k:=by
 rw [zoe hi hj,t3_two,decide_eq_true_eq] at h1
 rw [zoe hi hk,t3_two,decide_eq_true_eq] at h2
 omega
theorem str_cases (h:THeap):strOf h=⟨[],[]⟩∨(strOf h=⟨(List.range h.next.length).map (nodeOf h),(List.range h.next.length).flatMap (arrowsOf h)⟩∧h.next.length≤10∧1≤h.vars.length):=by
 unfold strOf
 split
 ·split
  ·split
   ·rename_i _ h2 h3;exact .inr ⟨rfl,h2,h3.1⟩
   ·exact .inl rfl
  ·exact .inl rfl
 ·exact .inl rfl
theorem strFun (h:THeap):FunS (strOf h) where
 many i hi:=by
  rcases str_cases h with he | ⟨he,_,_⟩
  ·rw [he] at hi;simp at hi
  ·rw [he] at hi ⊢
   simp only [List.length_map,List.length_range] at hi
   simp [List.getD,hi,nodeOf]
 val i j hi hj:=by rw [zoe hi hj];exact t3_or _
 one i j k hi hj hk h1 h2:=str_one i j k hi hj hk h1 h2
theorem strInv {h:THeap} (hv:h.vars.length=3∨h.vars.length=0):Inv (strOf h):=by
 rcases str_cases h with he | ⟨he,h10,hv1⟩
 ·rw [he];exact inv_nil
 ·refine ⟨by rw [he];simpa using h10,fun y hy=>?_,?_,fun i j k hi hj hk h1 h2=>str_one i j k hi hj hk h1 h2⟩
  ·rw [he] at hy
   obtain ⟨i,_,rfl⟩:=List.mem_map.1 hy
   exact ⟨by show (h.vars.map _).length=3;rw [List.length_map];omega,by show (h.vars.map _).length=3;rw [List.length_map];omega⟩
  ·rw [he]
   simp only [List.length_map,List.length_range]
   exact zjw h _
theorem join_two {a b:Int} (h:joinV a b=2):a=2∧b=2:=by
 unfold joinV at h
 split at h
 ·split at h <;> omega
 ·omega
theorem rowG_two {s:TStructure} {i:Int}:∀ {b:List Int} {acc:Int},rowG s i b acc=2→acc=2∧∀ j∈b,nextV s i j=2
 | [],acc,h=>⟨h,fun j hj=>by cases hj⟩
 | x :: b,acc,h=>by
  have h:rowG s i b (joinV acc (nextV s i x))=2:=h
  obtain ⟨h1,h2⟩:=rowG_two h
  obtain ⟨h3,h4⟩:=join_two h1
  refine ⟨h3,fun j hj=>?_⟩
  rcases List.mem_cons.1 hj with rfl | hj
  ·exact h4
  ·exact h2 j hj
theorem nextG_two {s:TStructure} {a b:List Int} (h:nextG s a b=2):∀ i∈a,∀ j∈b,nextV s i j=2:=by
 unfold nextG at h
 generalize nextV s (a.getD 0 0) (b.getD 0 0)=acc at h
 have key:∀ (a:List Int) (acc:Int),a.foldl (fun acc i=>rowG s i b acc) acc=2→acc=2∧∀ i∈a,∀ j∈b,nextV s i j=2:=by
  intro a
  induction a with
  | nil=>intro acc h;exact ⟨h,fun i hi=>by cases hi⟩
  | cons x a ih =>
   intro acc h
   obtain ⟨h1,h2⟩:=ih _ h
   obtain ⟨h3,h4⟩:=rowG_two h1
   refine ⟨h3,fun i hi=>?_⟩
   rcases List.mem_cons.1 hi with rfl | hi
   ·exact h4
   ·exact h2 i hi
 exact (key a acc h).2
theorem posN_at {k:ByteArray} {z:Int}:∀ {l:List ByteArray} {i:Int},z∈posN k l i→i≤z∧l[(z - i).toNat]?=some k
 | [],i,h=>by cases h
 | y :: l,i,h=>by
  have hr:z∈posN k l (i+1)→i≤z∧(y :: l)[(z - i).toNat]?=some k:=fun h=>by
   obtain ⟨h1,h2⟩:=posN_at h
   refine ⟨by omega,?_⟩
   rw [show (z - i).toNat=(z - (i+1)).toNat+1 by omega,List.getElem?_cons_succ]
   exact h2
  rw [posN] at h
  split at h
  ·rename_i hk
   rcases List.mem_cons.1 h with rfl | h
   ·rw [Int.sub_self]
    exact ⟨Int.le_refl _,by simp [hk]⟩
   ·exact hr h
  ·exact hr h
theorem gs_apart {s:TStructure} {i j:Nat} {a b:List Int} {z:Int} (ha:(gsF s)[i]?=some a) (hb:(gsF s)[j]?=some b) (hz:z∈a) (hz2:z∈b):i=j:=by
 unfold gsF grpO at ha hb
 rw [List.getElem?_map,Option.map_eq_some_iff] at ha hb
 obtain ⟨k,hk,rfl⟩:=ha
 obtain ⟨k2,hk2,rfl⟩:=hb
 have h1:=(posN_at hz).2
 have h2:=(posN_at hz2).2
 rw [h1] at h2
 cases h2
 obtain ⟨hi,hik⟩:=List.getElem?_eq_some_iff.1 hk
 obtain ⟨hj,hjk⟩:=List.getElem?_eq_some_iff.1 hk2
 exact (List.getElem_inj (zll _)).1 (hik.trans hjk.symm)
theorem blur_next {s:TStructure} {gs:List (List Int)} {i j:Nat} {a b:List Int} (ha:gs[i]?=some a) (hb:gs[j]?=some b):nextV (blurG s gs) i j=nextG s a b:=by
 have hi:=(List.getElem?_eq_some_iff.1 ha).1
 have hj:=(List.getElem?_eq_some_iff.1 hb).1
 have hl:(blurG s gs).nodes.length=gs.length:=by simp [blurG]
 rw [zfp (by rw [hl];exact grid_len _ _ _) (by rw [hl];exact hi) (by rw [hl];exact hj),hl,List.getD_eq_getElem?_getD]
 show (gs.flatMap fun a=>gs.map (nextG s a))[_]?.getD 0=_
 rw [zku ha hb]
 rfl
theorem blurInv {s:TStructure} (h:Inv s):Inv (blurF s):=by
 unfold blurF
 split
 ·exact inv_nil
 ·rename_i h0
  split
  ·rename_i hs
   have hG:=grp_ok (okB_of (zhr h.sm) hs h0)
   have hl:(blurG s (gsF s)).nodes.length=(gsF s).length:=by simp [blurG]
   refine ⟨by rw [hl];exact hG.l,fun y hy=>?_,by rw [hl];exact grid_len _ _ _,fun i j k hi hj hk h1 h2=>?_⟩
   ·obtain ⟨g,hg,rfl⟩:=List.mem_map.1 hy
    obtain ⟨g0,_,g2⟩:=hG.e g hg
    have hm:=h.e _ (zis (g2 _ (zhu (List.length_pos_iff.2 g0) 0)))
    exact ⟨hm.1,hm.2⟩
   ·rw [hl] at hi hj hk
    have ei:=List.getElem?_eq_getElem hi
    have ej:=List.getElem?_eq_getElem hj
    have ek:=List.getElem?_eq_getElem hk
    rw [blur_next ei ej] at h1
    rw [blur_next ei ek] at h2
    obtain ⟨i0,_,i2⟩:=hG.e _ (List.getElem_mem hi)
    obtain ⟨j0,_,j2⟩:=hG.e _ (List.getElem_mem hj)
    obtain ⟨k0,_,k2⟩:=hG.e _ (List.getElem_mem hk)
    have mi:=zhu (List.length_pos_iff.2 i0) (0:Int)
    have mj:=zhu (List.length_pos_iff.2 j0) (0:Int)
    have mk:=zhu (List.length_pos_iff.2 k0) (0:Int)
    have v1:=nextG_two h1 _ mi _ mj
    have v2:=nextG_two h2 _ mi _ mk
    generalize (gsF s)[i].getD 0 0=x at *
    generalize hy:(gsF s)[j].getD 0 0=y at *
    generalize hz:(gsF s)[k].getD 0 0=z at *
    have rx:=i2 _ mi
    have ry:=j2 _ mj
    have rz:=k2 _ mk
    obtain ⟨xn,rfl⟩:=Int.eq_ofNat_of_zero_le rx.1
    obtain ⟨yn,rfl⟩:=Int.eq_ofNat_of_zero_le ry.1
    obtain ⟨zn,rfl⟩:=Int.eq_ofNat_of_zero_le rz.1
    have:=h.one xn yn zn (by omega) (by omega) (by omega) v1 v2
    subst this
    exact gs_apart ej ek mj mk
  ·exact h
theorem Inv.setN {s:TStructure} (h:Inv s) (i:Nat) {y:TNode} (hy:y.vars.length=3∧y.reach.length=3):Inv ⟨s.nodes.set i y,s.next⟩:=by
 have hl:(s.nodes.set i y).length=s.nodes.length:=List.length_set
 refine ⟨by rw [hl];exact h.n,fun z hz=>?_,by rw [hl];exact h.sq,fun a b c ha hb hc h1 h2=>?_⟩
 ·rcases List.mem_or_eq_of_mem_set hz with hz | rfl
  ·exact h.e z hz
  ·exact hy
 ·simp only [hl] at ha hb hc
  rw [zma (s:=⟨s.nodes.set i y,s.next⟩) (t:=s) hl rfl] at h1 h2
  exact h.one a b c ha hb hc h1 h2
theorem Inv.setX {s:TStructure} (h:Inv s) (p:Nat):Inv ⟨s.nodes,s.next.set p 1⟩:=by
 have hq:(s.next.set p 1).length=s.nodes.length * s.nodes.length:=by rw [List.length_set];exact h.sq
 have key:∀ a b:Nat,a < s.nodes.length→b < s.nodes.length→nextV ⟨s.nodes,s.next.set p 1⟩ a b=2→nextV s a b=2:=fun a b ha hb h1=>by
  rw [zfp (s:=⟨s.nodes,s.next.set p 1⟩) hq ha hb] at h1
  rw [zfp h.sq ha hb]
  simp only [List.getD_eq_getElem?_getD] at h1 ⊢
  rw [List.getElem?_set] at h1
  split at h1
  ·split at h1 <;> simp at h1
  ·exact h1
 exact ⟨h.n,h.e,hq,fun a b c ha hb hc h1 h2=>h.one a b c ha hb hc (key a b ha hb h1) (key a c ha hc h2)⟩
theorem Inv.sh {s:TStructure} (h:Inv s):shortS s:=zhr h.sm
theorem Inv.at {s:TStructure} (h:Inv s) {i:Int} (hi:0≤i∧i < (s.nodes.length:Int)):∃ y,at? s.nodes i=some y∧y.vars.length=3∧y.reach.length=3 :=
 ⟨_,at_in' hi zN,h.e _ (zis hi)⟩
theorem zmn {c:TL1Cur} (h:CurOK c):Tot (zcv c 3) fun y=>Inv y.1∧CurOK y.2:=by
 unfold zcv
 refine Tot.bind (draw7_ok h (by omega)) fun y hy=>?_
 obtain ⟨ho,hv,hc⟩:=hy
 rw [zex y.1 ho.v ho.n,Option.bind_some]
 have hi:=strInv (h:=y.1) (by omega)
 refine Tot.bind (zlv hc (by omega)) fun z hz=>?_
 have loop:∀ (s0:TStructure) (c0:TL1Cur),Inv s0→CurOK c0→Tot (zan c0 3) fun y=>(0≤y.1∧y.1 < 3)∧CurOK y.2:=fun s0 c0 _ hc=>zdg hc (by omega)
 cases z.1
 all_goals simp only [cond_false,cond_true]
 rotate_left
 ·refine Tot.bind (zdg hz (by omega)) fun n hn=>?_
  refine Tot.bind (P:=fun r=>Inv ⟨r.2.2.2.1,r.2.2.2.2⟩∧CurOK ⟨r.1,r.2.1,r.2.2.1⟩) (Tot.loop (fun i s=>s.1=(i:Int)∧Inv ⟨s.2.2.2.2.1,s.2.2.2.2.2⟩∧CurOK ⟨s.2.1,s.2.2.1,s.2.2.2.1⟩) 2 ⟨rfl,hi,hn.2⟩ fun i s hI hle=>?_) fun r hr=>Tot.ret hr
  obtain ⟨h1,h2,h3⟩:=hI
  have hn10:=h2.n
  have hsq:=h2.sq
  have hx10:=h2.sq10
  simp only at hn10 hsq hx10
  rw [zdp]
  split
  ·rename_i hlt
   rw [zdp]
   split
   ·rename_i hpos
    refine Tot.bind (zdg h3 (by omega)) fun a ha=>?_
    refine Tot.bind (zdg ha.2 (by omega)) fun b hb=>?_
    obtain ⟨y,hy,hy1,hy2⟩:=h2.at (i:=a.1) ⟨ha.1.1,ha.1.2⟩
    simp only at hy
    have hst:addI s.1 1=((i+1:Nat):Int):=by rw [zam (by omega) (by omega),h1];omega
    simp only [eqI,zaf,hy,Option.bind_some]
    split
    ·refine Tot.bind (zdg hb.2 (by omega)) fun q hq=>?_
     obtain ⟨e,he⟩:=at_ex (xs:=y.reach) hq.1.1 (by omega)
     rw [he,Option.bind_some]
     exact Tot.ret ⟨by omega,hst,h2.setN _ ⟨hy1,by simpa using hy2⟩,hq.2⟩
    ·split
     ·exact Tot.ret ⟨by omega,hst,h2.setN _ ⟨hy1,hy2⟩,hb.2⟩
     ·split
      ·have hnn:1≤s.2.2.2.2.2.length:=by
        have:=Nat.mul_le_mul (show 1≤s.2.2.2.2.1.length by omega) (show 1≤s.2.2.2.2.1.length by omega)
        omega
       refine Tot.bind (zdg hb.2 (by omega)) fun q hq=>?_
       obtain ⟨e,he⟩:=at_ex (xs:=s.2.2.2.2.2) hq.1.1 hq.1.2
       rw [he,Option.bind_some]
       exact Tot.ret ⟨by omega,hst,h2.setX _,hq.2⟩
      ·exact Tot.ret ⟨by omega,hst,h2,hb.2⟩
   ·exact Tot.ret ⟨h2,h3⟩
  ·exact Tot.ret ⟨h2,h3⟩
 ·rw [spec_blur hi.sh,Option.bind_some]
  have hi:=blurInv hi
  refine Tot.bind (zdg hz (by omega)) fun n hn=>?_
  refine Tot.bind (P:=fun r=>Inv ⟨r.2.2.2.1,r.2.2.2.2⟩∧CurOK ⟨r.1,r.2.1,r.2.2.1⟩) (Tot.loop (fun i s=>s.1=(i:Int)∧Inv ⟨s.2.2.2.2.1,s.2.2.2.2.2⟩∧CurOK ⟨s.2.1,s.2.2.1,s.2.2.2.1⟩) 2 ⟨rfl,hi,hn.2⟩ fun i s hI hle=>?_) fun r hr=>Tot.ret hr
  obtain ⟨h1,h2,h3⟩:=hI
  have hn10:=h2.n
  have hsq:=h2.sq
  have hx10:=h2.sq10
  simp only at hn10 hsq hx10
  rw [zdp]
  split
  ·rename_i hlt
   rw [zdp]
   split
   ·rename_i hpos
    refine Tot.bind (zdg h3 (by omega)) fun a ha=>?_
    refine Tot.bind (zdg ha.2 (by omega)) fun b hb=>?_
    obtain ⟨y,hy,hy1,hy2⟩:=h2.at (i:=a.1) ⟨ha.1.1,ha.1.2⟩
    simp only at hy
    have hst:addI s.1 1=((i+1:Nat):Int):=by rw [zam (by omega) (by omega),h1];omega
    simp only [eqI,zaf,hy,Option.bind_some]
    split
    ·refine Tot.bind (zdg hb.2 (by omega)) fun q hq=>?_
     obtain ⟨e,he⟩:=at_ex (xs:=y.reach) hq.1.1 (by omega)
     rw [he,Option.bind_some]
     exact Tot.ret ⟨by omega,hst,h2.setN _ ⟨hy1,by simpa using hy2⟩,hq.2⟩
    ·split
     ·exact Tot.ret ⟨by omega,hst,h2.setN _ ⟨hy1,hy2⟩,hb.2⟩
     ·split
      ·have hnn:1≤s.2.2.2.2.2.length:=by
        have:=Nat.mul_le_mul (show 1≤s.2.2.2.2.1.length by omega) (show 1≤s.2.2.2.2.1.length by omega)
        omega
       refine Tot.bind (zdg hb.2 (by omega)) fun q hq=>?_
       obtain ⟨e,he⟩:=at_ex (xs:=s.2.2.2.2.2) hq.1.1 hq.1.2
       rw [he,Option.bind_some]
       exact Tot.ret ⟨by omega,hst,h2.setX _,hq.2⟩
      ·exact Tot.ret ⟨by omega,hst,h2,hb.2⟩
   ·exact Tot.ret ⟨h2,h3⟩
  ·exact Tot.ret ⟨h2,h3⟩

def OneT (s:TStructure):Prop:=∀ i j k,i < s.nodes.length→j < s.nodes.length→k < s.nodes.length→nextV s i j=2→nextV s i k=2→j=k
structure Bent (s:TStructure):Prop where
 sm:Sm.sm s
 one:isStrB 3 s=true→OneT s
theorem Inv.bent {s:TStructure} (h:Inv s):Bent s:=⟨h.sm,fun _=>h.one⟩
theorem Inv.bentN {s:TStructure} (h:Inv s) (i:Nat) {y:TNode} (hy:y.vars.length≤3∧y.reach.length≤3):Bent ⟨s.nodes.set i y,s.next⟩:=by
 have hl:(s.nodes.set i y).length=s.nodes.length:=List.length_set
 have hs:=h.sm
 refine ⟨⟨⟨by rw [hl];exact hs.1.1,fun z hz=>?_⟩,hs.2⟩,fun _ a b c ha hb hc h1 h2=>?_⟩
 ·rcases List.mem_or_eq_of_mem_set hz with hz | rfl
  ·exact hs.1.2 z hz
  ·exact ⟨⟨by omega,fun _ _=>trivial⟩,⟨by omega,fun _ _=>trivial⟩⟩
 ·simp only [hl] at ha hb hc
  rw [zma (s:=⟨s.nodes.set i y,s.next⟩) (t:=s) hl rfl] at h1 h2
  exact h.one a b c ha hb hc h1 h2
theorem bent_ok {c:TL1Cur} (h:CurOK c):Tot (zdu c) fun y=>Bent y.1∧CurOK y.2:=by
 unfold zdu
 refine Tot.bind (zmn h) fun y hy=>?_
 obtain ⟨hi,hc⟩:=hy
 have hx:=hi.sq10
 refine Tot.bind (zdg hc (by omega)) fun b hb=>?_
 simp only [eqI,zaf,ltI]
 split
 ·rw [zal (by simp;omega) (by omega),Option.bind_some]
  refine Tot.ret ⟨⟨⟨hi.sm.1,⟨by simp;omega,fun _ _=>trivial⟩⟩,fun hs=>?_⟩,hb.2⟩
  exfalso
  unfold isStrB at hs
  simp only [Bool.and_eq_true,decide_eq_true_eq] at hs
  have:=hs.2.2.1
  have:=hi.sq
  simp at *
  omega
 ·have hat:0 < (y.1.nodes.length:Int)→∃ z,at? y.1.nodes 0=some z∧z.vars.length=3∧z.reach.length=3:=fun hp=>hi.at ⟨by omega,hp⟩
  split
  ·split
   ·rename_i hp
    obtain ⟨z,hz,z1,z2⟩:=hat hp
    refine Tot.bind (zhs hb.2 (by decide)) fun q hq=>?_
    rw [hz,Option.bind_some]
    exact Tot.ret ⟨(hi.setN _ (y:=⟨z.vars,z.reach,z.shared,q.1⟩) ⟨z1,z2⟩).bent,hq.2⟩
   ·exact Tot.ret ⟨hi.bent,hb.2⟩
  ·split
   ·split
    ·rename_i hp
     obtain ⟨z,hz,z1,z2⟩:=hat hp
     simp only [hz,Option.bind_some]
     refine Tot.bind (zhs hb.2 (by decide)) fun q hq=>?_
     obtain ⟨e,he⟩:=at_ex (xs:=z.vars) (n:=0) (by omega) (by omega)
     rw [he,Option.bind_some]
     exact Tot.ret ⟨(hi.setN _ (y:=⟨z.vars.set (0:Int).toNat q.1,z.reach,z.shared,z.many⟩) ⟨by simpa using z1,z2⟩).bent,hq.2⟩
    ·exact Tot.ret ⟨hi.bent,hb.2⟩
   ·split
    ·split
     ·rename_i hp
      obtain ⟨z,hz,z1,z2⟩:=hat hp
      simp only [hz,Option.bind_some]
      unfold slc
      rw [if_pos (by omega),Option.bind_some]
      exact Tot.ret ⟨hi.bentN _ ⟨by show z.vars.length≤3;omega,by show (List.take _ (List.drop _ z.reach)).length≤3;simp;omega⟩,hb.2⟩
     ·exact Tot.ret ⟨hi.bent,hb.2⟩
    ·exact Tot.ret ⟨hi.bent,hb.2⟩
end Go.Ev


namespace Go.Ev
theorem zlo {a b:List Int} (h:a.length≤9223372036854775806):zdx a b=some (decide (a=b)):=by
 refine eqRow h (fun i x y hi hx hy=>?_) ?_ (by unfold zdx;rfl)
 ·simp only [zdp,cond_ne,zei,hx,hy,Option.bind_some,Int.ofNat_lt,hi,if_true]
  by_cases he:x=y <;> simp [he]
 ·simp [zdp]
theorem zog {a b:TNode} (h:okN a):zcr a b=some (decide (a=b)):=by
 obtain ⟨h1,h2⟩:=h
 unfold small at h1 h2
 unfold zcr
 rw [zlo (by omega),zlo (by omega)]
 rcases a with ⟨a0,a1,a2,a3⟩
 rcases b with ⟨b0,b1,b2,b3⟩
 simp only [Option.bind_some,zaf,eqI,TNode.mk.injEq]
 by_cases h0:a0=b0 <;> by_cases h1:a1=b1 <;> by_cases h2:a2=b2 <;> by_cases h3:a3=b3 <;> simp [h0,h1,h2,h3]
theorem spec_equal {a b:TStructure} (h:shortS a):zbb a b=some (decide (a=b)):=by
 have hn:=h.n
 have hx:=h.x
 unfold small at hn hx
 have he:a=b ↔ a.nodes=b.nodes∧a.next=b.next:=by
  rcases a with ⟨a0,a1⟩
  rcases b with ⟨b0,b1⟩
  simp
 unfold zbb
 simp only [neI,zdf,zlo (a:=a.next) (b:=b.next) (by omega),Option.bind_some,zaf]
 by_cases hl:a.nodes.length=b.nodes.length
 ·rw [if_pos (by omega)]
  by_cases h2:a.next=b.next
  ·rw [if_pos h2,iter_eqRow (xs:=a.nodes) (ys:=b.nodes) (.inl ()) (.inr ()) (by omega) hl (fun i x y hi hx hy=>?_) ?_]
   ·by_cases h1:a.nodes=b.nodes
    ·rw [if_pos h1,decide_eq_true (he.2 ⟨h1,h2⟩)];rfl
    ·rw [if_neg h1,decide_eq_false (fun h=>h1 (he.1 h).1)];rfl
   ·simp [zdp]
   ·simp only [zdp,zog (h.e _ (List.mem_of_getElem? hx)),zaf,zei,hx,hy,Option.bind_some,Int.ofNat_lt,hi,if_true]
    by_cases he:x=y <;> simp [he]
  ·rw [if_neg h2,decide_eq_false (fun h=>h2 (he.1 h).2)]
 ·rw [if_neg (by omega),decide_eq_false (fun h=>hl (by rw [h]))]
theorem anySet_ok {l:List TStructure} {h:THeap} (hl:l.length≤100) (hh:okH h) (hs:∀ x∈l,small x.nodes.length) (hx:∃ x∈l,isEmb (strOf h) x=true):laws_anySet l h=some true:=by
 unfold laws_anySet
 have hD:∀ t∈l,zbq t h=some (isEmb (strOf h) t):=fun t ht=>by
  unfold zbq
  rw [zex h hh.v hh.n,Option.bind_some,zfy _ _ (strOf_ok h) (hs t ht)]
  rfl
 refine Tot.eq (Tot.bind (P:=(· = .inl true)) (Tot.first l.length (fun i=>if isEmb (strOf h) (l.getD i ⟨[],[]⟩) then some true else none) () (fun i hi=>?_) ?_ ?_) fun r hr=>?_)
 ·have hm:l.getD i ⟨[],[]⟩∈l:=by simp [List.getD,hi]
  simp only [ltI,zaf,zgf hi ⟨[],[]⟩,Option.bind_some,hD _ hm]
  rw [if_pos (by omega),zam (by omega) (by omega)]
  cases isEmb (strOf h) (l.getD i ⟨[],[]⟩) <;> exact Tot.ret rfl
 ·simp only [ltI,zaf]
  rw [if_neg (by omega)]
  exact Tot.ret rfl
 ·rw [any_first l (fun t=>isEmb (strOf h) t) ⟨[],[]⟩]
  obtain ⟨x,hx1,hx2⟩:=hx
  rw [if_pos (List.any_eq_true.2 ⟨x,hx1,hx2⟩)]
  rfl
 ·subst hr
  exact Tot.ret rfl
theorem loop_foc {l:List TStructure} {s:TStructure} (hl:l.length≤100) (hl2:∀ x∈l,shortS x) (hs:shortS s) (hx:isStrB 3 s=true→∀ x∈l,isEmb x s=true) :
 iter (ρ:=Unit ⊕ Unit) (fun s_25:Int =>
          cond (ltI s_25 (l.length:Int))
           ((at? l s_25).bind fun e_33 =>
            (at? l s_25).bind fun e_38 =>
             (zbb e_33 e_38).bind fun y_43 =>
              cond y_43
               ((zav 3 s).bind fun y_47 =>
                cond y_47
                 ((at? l s_25).bind fun _ =>
                  (zbs e_33 s).bind fun y_56 =>
                   cond y_56
                    (some (.inl (addI s_25 1)))
                    (some (.inr (.inl ()))))
                 (some (.inl (addI s_25 1))))
               (some (.inr (.inl ()))))
           (some (.inr (.inr ())))) 0=some (.inr ()):=by
 refine Tot.eq (Tot.all l.length (fun _=>true) () () (fun i hi=>?_) ?_ ?_)
 ·have hm:=List.getElem_mem hi
  simp only [zdp,Int.ofNat_lt,hi,if_true,zei,List.getElem?_eq_getElem hi,Option.bind_some,spec_equal (hl2 _ hm),decide_true,cond_true,zey 3 s hs,zfy _ _ (hl2 _ hm).ok hs.n]
  rw [zam (by omega) (by omega)]
  cases hb:isStrB 3 s with
  | false=>exact Tot.ret rfl
  | true=>rw [hx hb _ hm];exact Tot.ret rfl
 ·rw [zdp,if_neg (by omega)]
  exact Tot.ret rfl
 ·simp
theorem drawF_ok {code:List U8} (hl:code.length≤1048576):Tot (zbj code) fun y=>Bent y.1:=by
 unfold zbj
 refine Tot.bind (new_ok hl) fun c hc=>?_
 refine Tot.bind (zmn hc) fun y hy=>?_
 refine Tot.bind (zlv hy.2 (by omega)) fun z hz=>?_
 cases z.1
 ·simp only [cond_false]
  refine Tot.bind (zhs hz (by decide)) fun q hq=>?_
  exact Tot.ret hy.1.bent
 ·simp only [cond_true]
  refine Tot.bind (bent_ok hz) fun w hw=>?_
  refine Tot.bind (zhs hw.2 (by decide)) fun q hq=>?_
  exact Tot.ret hw.1
theorem drawD_ok {code:List U8} (hl:code.length≤1048576):Tot (zbu code) fun y=>Inv y.1∧okH y.2:=by
 unfold zbu
 refine Tot.bind (new_ok hl) fun c hc=>?_
 refine Tot.bind (draw7_ok hc (by omega)) fun y hy=>?_
 obtain ⟨ho,hv,hc2⟩:=hy
 refine Tot.bind (zlv hc2 (by omega)) fun z hz=>?_
 cases z.1
 ·simp only [cond_false]
  refine Tot.bind (zmn hz) fun q hq=>?_
  exact Tot.ret ⟨hq.1,ho⟩
 ·simp only [cond_true]
  have hi:=strInv (h:=y.1) (by omega)
  rw [zex y.1 ho.v ho.n,Option.bind_some,spec_blur hi.sh,Option.bind_some]
  exact Tot.ret ⟨blurInv hi,ho⟩
theorem count_eq (s:TStructure) (k:Int) (h:shortS s):∃ n,zcd s k=some n∧zcb s k=some n:=by
 unfold zcd zcb
 rw [znt s k h,spec_cell s k h,Option.bind_some,Option.bind_some,zdp]
 by_cases hb:cellF s k < 0
 ·rw [if_pos hb,if_neg (by omega)]
  exact ⟨0,rfl,rfl⟩
 ·rw [if_neg hb,if_pos (by omega),zka s _ h.n]
  exact ⟨_,rfl,rfl⟩
theorem law_Focused {code:List U8} (_:Wf.wf code):laws_FnFocused code=some true:=by
 unfold laws_FnFocused laws_big
 rw [Option.bind_some,zdp]
 by_cases hb:(1048576:Int) < code.length
 ·rw [if_pos hb]
 rw [if_neg hb]
 have hl:code.length≤1048576:=by omega
 obtain ⟨⟨s,k⟩,hd,hB⟩:=drawF_ok hl
 obtain ⟨⟨t,h⟩,hd2,hI,hh⟩:=drawD_ok hl
 have hB:Bent s:=hB
 have hI:Inv t:=hI
 have hh:okH h:=hh
 have hd3:zbc code=some (s,k):=by
  unfold zbc
  rw [hd]
  rfl
 have hsh:=zhr hB.sm
 obtain ⟨n,c1,c2⟩:=count_eq s k hsh
 obtain ⟨f1,f2⟩:=focF_all k hB.sm
 have hloop:=loop_foc (l:=focF s k) (s:=s) (by omega) (fun x hx=>zhr (f1 x hx)) hsh fun hb=>focus_in hsh (strOK_of hb) (hB.one hb) k
 simp only [hd,hd2,hd3,Option.bind_some,zhz s k hsh,zmx s k hsh,c1,c2,neI,bne_self_eq_false,cond_false,ne_eq,not_true_eq_false,decide_false,hloop,Sum.elim_inr,zey 3 t hI.sh]
 cases hst:isStrB 3 t with
 | false=>rfl
 | true =>
  have hD:zbq t h=some (isEmb (strOf h) t):=by
   unfold zbq
   rw [zex h hh.v hh.n,Option.bind_some,zfy _ _ (strOf_ok h) hI.sh.n]
   rfl
  simp only [cond_true,hD,Option.bind_some]
  cases he:isEmb (strOf h) t with
  | false=>rfl
  | true =>
   obtain ⟨f,hf⟩:=emb_of he
   have any:∀ k:Int,laws_anySet (focF t k) h=some true:=fun k=>by
    obtain ⟨g1,g2⟩:=focF_all k hI.sm
    exact anySet_ok (by omega) hh (fun x hx=>(zhr (g1 x hx)).n) (focus_sound hf (strFun h) hI.sh k)
   simp only [cond_true,zhz t _ hI.sh,any,Option.bind_some]
   rfl
end Go.Ev


namespace Go.Proofs
open Go.Ev
theorem st0 {g:Cfg} {f:Nat} {args:List AV} {fn:Go.Func} {r:AV} (l:List Go.ResultVar) (h1:Try.prog.funcs[f]?=some fn) (h:Goal (FnEnd Try.prog 0 l ((lookK (f,atEnd) g.gho).getD []) r) (evk g (0+1) f (fn.body.getD .skip) [] { env:=fun t=>(args[t]?).getD .dead,mem:=mem0 }))
 (h0:lookN f g.ctx=none:=by rfl) (hP:g.P=Try.prog:=by rfl) (h2:fn.body=some (fn.body.getD .skip):=by kernel_rfl) (h3:fnOK g f fn=true:=by kernel_rfl) (h4:Nat.ble args.length fn.ntmps=true:=by kernel_rfl) (h5:fn.results.toList=l:=by rfl):∃ m,callo g 0 f args mem0=some (r,m) :=
 start_fn _ l h0 hP h1 h2 h3 (Nat.le_of_ble_eq_true h4) h5 h
theorem stD {g:Cfg} {f d:Nat} {args:List AV} {fn:Go.Func} {r:AV} {mem:Mem} {Q:Mem→Prop} (l:List Go.ResultVar) (h1:Try.prog.funcs[f]?=some fn) (h:∀ QV,QV=Q→Goal (FnEndD Try.prog d l ((lookK (f,atEnd) g.gho).getD []) r QV) (evk g (d+1) f (fn.body.getD .skip) [] { env:=fun t=>(args[t]?).getD .dead,mem }))
 (h0:lookN f g.ctx=none:=by rfl) (hP:g.P=Try.prog:=by rfl) (h2:fn.body=some (fn.body.getD .skip):=by kernel_rfl) (h3:fnOK g f fn=true:=by kernel_rfl) (h4:Nat.ble args.length fn.ntmps=true:=by kernel_rfl) (h5:fn.results.toList=l:=by rfl):∃ m,callo g d f args mem=some (r,m)∧Q m :=
 start_D _ l h0 hP h1 h2 h3 (Nat.le_of_ble_eq_true h4) h5 h
theorem ent {f : Nat} {fn : Go.Func} (h : Try.prog.funcs[f]? = some fn) (h1 : fn.body.isSome = true := by kernel_rfl) (h2 : (fn.name == "runtime.NumGoroutine") = false := by kernel_rfl) : Go.Ev.Enters Try.prog f := ⟨fn, h, h1, h2⟩
@[simp] theorem ti_3:ti Try.prog 3=some { size:=1,bytes:=8,agg:=false,elem:=none,flds:=[],zero:=[.int .i64 0] }:=by kernel_rfl
@[simp] theorem ti_5:ti Try.prog 5=some { size:=1,bytes:=1,agg:=false,elem:=none,flds:=[],zero:=[.int .u8 0] }:=by kernel_rfl
@[simp] theorem ti_9:ti Try.prog 9=some { size:=1,bytes:=16,agg:=false,elem:=none,flds:=[],zero:=[.string ByteArray.empty] }:=by kernel_rfl
attribute [simp] Try.underlying9
@[simp] theorem ti_22:ti Try.prog 22=some { size:=1,bytes:=24,agg:=false,elem:=some 5,flds:=[],zero:=[.slice none 0 0] }:=by kernel_rfl
@[simp] theorem ti_24:ti Try.prog 24=some { size:=1,bytes:=24,agg:=false,elem:=some 54,flds:=[],zero:=[.slice none 0 0] }:=by kernel_rfl
@[simp] theorem ti_25:ti Try.prog 25=some { size:=1,bytes:=24,agg:=false,elem:=some 3,flds:=[],zero:=[.slice none 0 0] }:=by kernel_rfl
@[simp] theorem ti_27:ti Try.prog 27=some { size:=2,bytes:=48,agg:=true,elem:=none,flds:=[(0,24),(1,25)],zero:=[.slice none 0 0,.slice none 0 0] }:=by kernel_rfl
@[simp] theorem ti_30:ti Try.prog 30=some { size:=1,bytes:=24,agg:=false,elem:=some 27,flds:=[],zero:=[.slice none 0 0] }:=by kernel_rfl
@[simp] theorem ti_36:ti Try.prog 36=some { size:=2,bytes:=48,agg:=true,elem:=none,flds:=[(0,25),(1,25)],zero:=[.slice none 0 0,.slice none 0 0] }:=by kernel_rfl
@[simp] theorem ti_54:ti Try.prog 54=some { size:=4,bytes:=64,agg:=true,elem:=none,flds:=[(0,25),(1,25),(2,3),(3,3)],zero:=[.slice none 0 0,.slice none 0 0,.int .i64 0,.int .i64 0] }:=by kernel_rfl
@[simp] theorem ti_69:ti Try.prog 69=some { size:=3,bytes:=40,agg:=true,elem:=none,flds:=[(0,22),(1,3),(2,3)],zero:=[.slice none 0 0,.int .i64 0,.int .i64 0] }:=by kernel_rfl
@[simp] theorem ti_82:ti Try.prog 82=some { size:=1,bytes:=24,agg:=false,elem:=some 25,flds:=[],zero:=[.slice none 0 0] }:=by kernel_rfl
end Go.Proofs


namespace Go.Proofs
open Go.Ev Go.RowKit Go.Lib Go.Sort
theorem INFO3:(Try.prog.info? 3).map (fun i=>(i.zero,i.size,i.bytes))=some (some (.int .i64 0),1,8):=by kernel_rfl
set_option maxHeartbeats 2000000 in
set_option maxRecDepth 100000 in
theorem clone53_nil (n c:Nat) (w:World):Calls Try.prog 53 #[.slice none n c] w fun e w'=>e=.returned (.slice none 0 0)∧w'=w:=by
 have q25:∀ (w:World) (a:Option Addr) (n c n' c':Nat),(binOp .eql 25 (.slice a n c) (.slice none n' c')).run Try.prog w=.ok (.bool a.isNone) w:=fun w a n c n' c'=>Lib.run_eql_slice_nil w _ _ a n c n' c' Try.underlying25
 go_enter Try.func53,Try.ntmps53
 go_wp2
 go_ret
 exact ⟨rfl,rfl⟩

set_option maxHeartbeats 2000000 in
set_option maxRecDepth 100000 in
theorem clone53_zero (a:Addr) (c:Nat) (w:World) :
 Calls Try.prog 53 #[.slice (some a) 0 c] w fun e w'=>∃ b,e=.returned (.slice b 0 0)∧w'=w.alloc (.cells #[] 3):=by
 have q25:∀ (w:World) (a:Option Addr) (n c n' c':Nat),(binOp .eql 25 (.slice a n c) (.slice none n' c')).run Try.prog w=.ok (.bool a.isNone) w:=fun w a n c n' c'=>Lib.run_eql_slice_nil w _ _ a n c n' c' Try.underlying25
 go_enter Try.func53,Try.ntmps53
 go_wp2
 go_ret
 exact ⟨_,rfl,rfl⟩

set_option maxHeartbeats 2000000 in
set_option maxRecDepth 100000 in
theorem clone53_row (b off n c:Nat) (vs:List Value) (w:World) (hlen:vs.length=n * 1) (hbig:n * 8≤140737488355328) (hsc:∀ u∈vs,scal u=true) (hc:∀ j u,vs[j]?=some u→w.cell? ⟨b,off+j,none⟩=some u) :
 Calls Try.prog 53 #[.slice (some ⟨b,off,none⟩) n c] w fun e w'=>∃ v',e=.returned v'∧w'.ownsRow w.heap.size 3 1 v' n vs∧Below w.heap.size w w':=by
 obtain ⟨i0,hi,hz0,hz1,hz2⟩:=info_parts INFO3
 have q25:∀ (w:World) (a:Option Addr) (n c n' c':Nat),(binOp .eql 25 (.slice a n c) (.slice none n' c')).run Try.prog w=.ok (.bool a.isNone) w:=fun w a n c n' c'=>Lib.run_eql_slice_nil w _ _ a n c n' c' Try.underlying25
 have u25:∀ w,Sem.run Try.prog (underlying 25) w=.ok (TypeDesc.slice 3) w:=run_underlying Try.underlying25
 have A:Aside (∀ j u,vs[j]?=some u→w.cell? ⟨b,off+j,none⟩=some u):=hc
 clear hc
 go_enter Try.func53,Try.ntmps53
 go_wp2_with (at_builtin;refine wpList_append_own _ rfl _ _ 25 rfl w.heap.size 3 i0 (.int .i64 0) 1 8 Try.underlying25 hi hz0 hz1 hz2 rfl (by decide) _ _ _ rfl (World.ownsRow_made w #[] 0 (Nat.le_refl _) (Nat.zero_le _) rfl) ⟨b,off,none⟩ n c vs rfl ?qc1 ?qc2 ?qc3 ?qc4 ?qc5 ?qc6 ?_)
 case qc1=>exact hlen
 case qc2 =>
  intro j u hj
  rw [Addr.add_lit]
  exact Lib.cell?_alloc_some _ (A.out j u hj)
 case qc3 =>
  intro u hu
  have:=hsc u hu
  cases u <;> first | rfl | cases this
 case qc4=>unfold maxLen;omega
 case qc5=>omega
 case qc6=>simp
 intro v' w1 hown hgrow hnil
 go_wp2
 go_ret
 refine ⟨_,rfl,by simpa using hown,?_⟩
 refine ⟨hgrow.os,hgrow.tape,hgrow.output,?_,fun k hk=>?_⟩
 ·have:=hgrow.size;rw [World.size_alloc] at this;omega
 ·rw [hgrow.block k (by rw [World.size_alloc];omega) (by simp [Value.ownBlock];omega),zfm w _ hk]

def C53:List AV→Option AV:=specP (X:=List Int × Unit) fun x=>zby x.1
theorem C53_eq {s:List Int} {y} (h:zby s=some y):C53 [av .shr s]=some (Res.res y):=zai (X:=List Int × Unit) (F:=fun x=>zby x.1) (x:=(s,())) h
theorem pc53:PC Try.prog 53 C53 :=
 pc_clone (α:=Int) (e:=3) (bytes:=8) ⟨Try.f53,Try.func53,by kernel_rfl,by kernel_rfl⟩ clone53_nil
  (fun a c w=>(clone53_zero a c w).mono fun e w' h=>by
   obtain ⟨b,rfl,rfl⟩:=h
   exact ⟨b,rfl,rfl,rfl,rfl,by rw [World.size_alloc];omega,fun k hk=>zfm w _ hk⟩)
  clone53_row
end Go.Proofs

