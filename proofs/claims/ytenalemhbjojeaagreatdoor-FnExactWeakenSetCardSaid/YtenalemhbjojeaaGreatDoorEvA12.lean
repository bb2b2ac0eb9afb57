import Derived.Test.YtenalemhbjojeaaGreatDoorEvA11
import Derived.Test.YtenalemhbjojeaaGreatDoorEvA6
import Derived.WalkKit
import Derived.Deep.LoopGhost
import Derived.Lib.Walk
import Derived.Lib.SliceRun
import Derived.Laws.OwnMore
import Derived.Lib.AppendZerosOnto
import Derived.Test.YtenalemhbjojeaaGreatDoorEvA7
import Derived.Deep.RegionLaw
import Derived.Shelf.RegionOpenPlain
import Derived.Lib.SlicesDelete
import Derived.Laws.Rows
import Derived.Laws.IdiomStrings
import Derived.Laws.BytesArg
import Derived.Test.YtenalemhbjojeaaGreatDoorEvA9
import Derived.KernelRfl
set_option linter.unusedSimpArgs false
set_option linter.unusedVariables false
set_option linter.unnecessarySimpa false
noncomputable section
namespace Go.Proofs
open Go.Shelf Go.RowKit Go.Lib Go.Ev

theorem zrm {vs us:List Value} {n t:Nat} (hvl:vs.length=n * 2) (hul:us.length=2) (ht:t≤n * 2) (j:Nat) :
 (vs.take t ++ us ++ vs.drop t)[j]?=if j < t then vs[j]? else if j < t+2 then us[j - t]? else vs[j - 2]?:=by
 rcases Nat.lt_or_ge j t with h | h
 ·rw [if_pos h,List.append_assoc,List.getElem?_append_left (by rw [List.length_take];omega),List.getElem?_take,if_pos h]
 ·rw [if_neg (by omega)]
  rcases Nat.lt_or_ge j (t+2) with h2 | h2
  ·rw [if_pos h2,List.append_assoc,List.getElem?_append_right (by rw [List.length_take];omega),List.getElem?_append_left (by rw [List.length_take];omega),List.length_take,Nat.min_eq_left (by omega)]
  ·rw [if_neg (by omega),List.append_assoc,List.getElem?_append_right (by rw [List.length_take];omega),List.getElem?_append_right (by rw [List.length_take];omega),List.length_take,Nat.min_eq_left (by omega),List.getElem?_drop,hul]
   congr 1
   omega
theorem zhi (k:Nat):(Builtin.zeroCells zS.cells k).size=k * 2:=by simp [Builtin.zeroCells,Value.cells]

theorem poG42:PO Tryz.prog 42 (specO (X:=List TStructure × Int × List TStructure × Unit) fun x=>insF x.1 x.2.1 x.2.2.1):=by
 refine po_insert ⟨Tryz.f42,Tryz.func42,by kernel_rfl,by kernel_rfl⟩ (show 0 < 2 by decide) fun n i hi hn w base cap b2 c2 vs us hvl hul hcap h0 hrow hc2 hb2 hh2 h1 h2=>?_
 have hvl:vs.length=n * 2:=hvl
 have hul:us.length=2:=hul
 show Calls _ _ _ _ fun e w'=>∃ v,e=.returned v∧InsOK w w' base (i * 2) 2 n vs us v
 obtain ⟨arr2,e2,hh2,hs2,hu2⟩:=hh2
 have hs2:c2 * 2≤arr2.size:=hs2
 have hus:∀ j v,us[j]?=some v→w.cell? ⟨b2,j,none⟩=some v:=fun j v hj=>by
  unfold World.cell?
  simp only [hh2]
  simpa using hu2 j v hj
 rcases Nat.lt_or_ge i n with hlt | hge
 ·obtain ⟨b1,arr,e,rfl,hne,hb1,hh1,hs1,hv1⟩:=hrow (by omega)
  have hs1:cap * 2≤arr.size:=hs1
  have hvs:∀ j v,vs[j]?=some v→w.cell? ⟨b1,j,none⟩=some v:=fun j v hj=>by
   unfold World.cell?
   simp only [hh1]
   simpa using hv1 j v hj
  rcases Nat.lt_or_ge cap (n+1) with hr | hr
  ·refine (ins_grow b1 n cap i b2 c2 vs us w hlt hcap hr hn hvl hul hvs hus h1 h2).mono fun e' w' hh=>?_
   obtain ⟨rfl,rfl⟩:=hh
   refine ⟨_,rfl,?_⟩
   have hG:n+1≤grownCap w (n+1) cap 34:=grownCap_ge w _ _ _
   generalize grownCap w (n+1) cap 34=G at hG ⊢
   obtain ⟨ROW,hROW⟩:∃ ROW:Array Value,ROW=(vs.take (i * 2)).toArray ++ Builtin.zeroCells zS.cells (n+1 - i) ++ Builtin.zeroCells zS.cells (G - (n+1)):=⟨_,rfl⟩
   rw [← hROW]
   have hRs:ROW.size=G * 2:=by
    rw [hROW,Array.size_append,Array.size_append,zhi,zhi,List.size_toArray,List.length_take]
    omega
   have hR0:∀ j,j < i * 2→ROW[j]?=vs[j]?:=fun j hj=>by
    rw [hROW,Array.append_assoc,Array.getElem?_append_left (by rw [List.size_toArray,List.length_take];omega),List.getElem?_toArray,List.getElem?_take,if_pos hj]
   obtain ⟨k0,s0⟩:=zkb w (.cells ROW 34)
   have hk0:Kept w ((w.alloc (.cells ROW 34)).drew):=k0
   have hs0:((w.alloc (.cells ROW 34)).drew).heap.size=w.heap.size+1:=s0
   have hh0:((w.alloc (.cells ROW 34)).drew).heap[w.heap.size]?=some (.cells ROW 34 (0,0)):=by
    show (w.heap.push _)[w.heap.size]?=_
    simp
   have ho0:∀ k,k < w.heap.size→((w.alloc (.cells ROW 34)).drew).heap[k]?=w.heap[k]?:=fun k hk=>by
    show (w.heap.push _)[k]?=_
    rw [Array.getElem?_push,if_neg (by omega)]
   generalize (w.alloc (.cells ROW 34)).drew=W0 at hk0 hs0 hh0 ho0 ⊢
   have hdl:(vs.drop (i * 2)).length=(n - i) * 2:=by rw [List.length_drop,hvl];omega
   obtain ⟨A1,a1,a2,a3⟩:=zeq w.heap.size 34 us (i * 2) W0 ROW hh0 (by rw [hRs,hul];omega)
   obtain ⟨A2,b1',b2',b3⟩:=zeq w.heap.size 34 (vs.drop (i * 2)) ((i+1) * 2) (W0.setCells w.heap.size (i * 2) us).drew A1 a1 (by rw [a2,hRs,hdl];omega)
   obtain ⟨q1,q2⟩:=zfm W0 w.heap.size (i * 2) us
   obtain ⟨q3,q4⟩:=zfm (W0.setCells w.heap.size (i * 2) us).drew w.heap.size ((i+1) * 2) (vs.drop (i * 2))
   have q1':Kept W0 (W0.setCells w.heap.size (i * 2) us).drew:=q1
   refine ⟨⟨_,_,A2,34,rfl,hG,b1',by omega,fun j hj=>?_,.inl (Nat.le_refl _)⟩,?_,(hk0.trans q1').trans q3,fun b hb _=>?_⟩
   ·have hj2:j < (n+1) * 2:=by
     rcases Nat.lt_or_ge j ((n+1) * 2) with h | h
     ·exact h
     ·exfalso
      apply hj
      rw [List.getElem?_eq_none_iff,List.length_append,List.length_append,List.length_take,List.length_drop]
      omega
    rw [zrm hvl hul (by omega),b3 j,a3 j,hdl,hul]
    rcases Nat.lt_or_ge j (i * 2) with c1 | c1
    ·rw [if_neg (by omega),if_neg (by omega),if_pos c1,hR0 j c1]
    ·rcases Nat.lt_or_ge j (i * 2+2) with c3 | c3
     ·rw [if_neg (by omega),if_pos (by omega),if_neg (by omega),if_pos c3]
     ·rw [if_pos (by omega),if_neg (by omega),if_neg (by omega),List.getElem?_drop]
      congr 1
      omega
   ·rw [q4]
    show _≤(W0.setCells w.heap.size (i * 2) us).heap.size
    rw [q2,hs0]
    omega
   ·rw [zci _ _ (by omega)]
    show (W0.setCells w.heap.size (i * 2) us).heap[b]?=_
    rw [zci _ _ (by omega),ho0 b hb]
  ·refine (ins_shift b1 n cap i b2 c2 vs us w hlt hr hn (Ne.symm hne) hvl hul hvs (fun j hj=>?_) (fun j hj=>?_) hus h1 h2 e2 e arr2.size arr.size ?_ ?_ (by omega) ?_ ?_).mono fun e' w' hh=>?_
   ·unfold World.cell?
    simp only [hh1]
    have:j < arr.size:=by omega
    simp [this]
   ·simp [World.frozen?,hh1]
   ·simp [World.shape?,hh2]
   ·simp [World.shape?,hh1]
   ·simp [World.frozen?,hh2]
   ·simp [World.frozen?,hh2]
   ·obtain ⟨rfl,rfl⟩:=hh
    refine ⟨_,rfl,?_⟩
    have hdl:(vs.drop (i * 2)).length=(n - i) * 2:=by rw [List.length_drop,hvl];omega
    have hh1':w.drew.heap[b1]?=some (.cells arr e (0,0)):=hh1
    obtain ⟨A1,a1,a2,a3⟩:=zeq b1 e (vs.drop (i * 2)) ((i+1) * 2) w.drew arr hh1' (by rw [hdl];omega)
    obtain ⟨A2,b1',b2',b3⟩:=zeq b1 e us (i * 2) _ A1 a1 (by rw [a2,hul];omega)
    obtain ⟨q1,q2⟩:=zfm w.drew b1 ((i+1) * 2) (vs.drop (i * 2))
    obtain ⟨q3,q4⟩:=zfm (w.drew.setCells b1 ((i+1) * 2) (vs.drop (i * 2))) b1 (i * 2) us
    have q1':Kept w (w.drew.setCells b1 ((i+1) * 2) (vs.drop (i * 2))):=q1
    refine ⟨⟨_,_,A2,e,rfl,hr,b1',by omega,fun j hj=>?_,.inr ⟨by omega,rfl⟩⟩,?_,q1'.trans q3,fun b hb hne2=>?_⟩
    ·have hj2:j < (n+1) * 2:=by
      rcases Nat.lt_or_ge j ((n+1) * 2) with h | h
      ·exact h
      ·exfalso
       apply hj
       rw [List.getElem?_eq_none_iff,List.length_append,List.length_append,List.length_take,List.length_drop]
       omega
     rw [zrm hvl hul (by omega),b3 j,a3 j,hdl,hul]
     rcases Nat.lt_or_ge j (i * 2) with c1 | c1
     ·rw [if_neg (by omega),if_neg (by omega),if_pos c1,hv1 j vs[j] (List.getElem?_eq_getElem (by omega)),List.getElem?_eq_getElem (by omega)]
     ·rcases Nat.lt_or_ge j (i * 2+2) with c3 | c3
      ·rw [if_pos (by omega),if_neg (by omega),if_pos c3]
      ·rw [if_neg (by omega),if_pos (by omega),if_neg (by omega),if_neg (by omega),List.getElem?_drop]
       congr 1
       omega
    ·rw [q4,q2]
     exact Nat.le_refl _
    ·have hbb:b≠b1:=fun h=>hne2 (by omega) (by rw [h])
     rw [zci _ _ hbb,zci _ _ hbb]
     rfl
 ·obtain rfl:i=n:=by omega
  rcases Nat.lt_or_ge cap (i+1) with hr | hr
  ·refine (ins_end_grow base i cap b2 c2 vs us w hcap hr hn hvl hul (fun hb=>?_) (fun a ha j v hj=>?_) hus h2).mono fun e' w' hh=>?_
   ·rcases Nat.eq_zero_or_pos i with h | h
    ·exact h
    ·obtain ⟨b1,arr,e,h3,_⟩:=hrow h
     rw [hb] at h3;cases h3
   ·have hj':=(List.getElem?_eq_some_iff.1 hj).1
    obtain ⟨b1,arr,e,h3,_,_,h4,_,h5⟩:=hrow (by omega)
    rw [ha] at h3
    cases h3
    rw [Addr.add_lit,Nat.zero_add]
    unfold World.cell?
    simp only [h4]
    simpa using h5 j v hj
   ·obtain ⟨rfl,rfl⟩:=hh
    refine ⟨_,rfl,?_⟩
    have hG:i+1≤grownCap w (i+1) cap 34:=grownCap_ge w _ _ _
    generalize grownCap w (i+1) cap 34=G at hG ⊢
    obtain ⟨ROW,hROW⟩:∃ ROW:Array Value,ROW=(vs ++ us).toArray ++ Builtin.zeroCells zS.cells (G - (i+1)):=⟨_,rfl⟩
    rw [← hROW]
    have hRs:ROW.size=G * 2:=by
     rw [hROW,Array.size_append,zhi,List.size_toArray,List.length_append]
     omega
    obtain ⟨k0,s0⟩:=zkb w (.cells ROW 34)
    refine ⟨⟨_,_,ROW,34,rfl,hG,?_,by omega,fun j hj=>?_,.inl (Nat.le_refl _)⟩,by rw [s0];omega,k0,fun b hb _=>?_⟩
    ·show (w.heap.push _)[w.heap.size]?=_
     simp
    ·have e1:vs.take (i * 2) ++ us ++ vs.drop (i * 2)=vs ++ us:=by rw [List.take_of_length_le (by omega),List.drop_eq_nil_of_le (by omega),List.append_nil]
     rw [e1] at hj ⊢
     have hj2:j < (vs ++ us).length:=by
      rcases Nat.lt_or_ge j (vs ++ us).length with h | h
      ·exact h
      ·exact absurd (List.getElem?_eq_none h) hj
     rw [hROW,Array.getElem?_append_left (by simpa using hj2),List.getElem?_toArray]
    ·show (w.heap.push _)[b]?=_
     rw [Array.getElem?_push,if_neg (by omega)]
  ·rcases Nat.eq_zero_or_pos i with hz | hp
   ·have:=h0 hz;omega
   ·obtain ⟨b1,arr,e,rfl,hne,hb1,hh1,hs1,hv1⟩:=hrow hp
    have hs1:cap * 2≤arr.size:=hs1
    refine (ins_end_room b1 i cap b2 c2 us w hr hn hul (fun j hj=>?_) (fun j hj=>?_) hus h2).mono fun e' w' hh=>?_
    ·unfold World.cell?
     simp only [hh1]
     have h6:0+i * 2+j < arr.size:=by omega
     show (arr[0+i * 2+j]?).isSome=true
     rw [Array.getElem?_eq_getElem h6]
     rfl
    ·simp [World.frozen?,hh1]
    ·obtain ⟨rfl,rfl⟩:=hh
     refine ⟨_,rfl,?_⟩
     obtain ⟨A1,a1,a2,a3⟩:=zeq b1 e us (0+i * 2) w arr hh1 (by rw [hul];omega)
     obtain ⟨q1,q2⟩:=zfm w b1 (0+i * 2) us
     refine ⟨⟨_,_,A1,e,rfl,hr,a1,by omega,fun j hj=>?_,.inr ⟨hp,rfl⟩⟩,by rw [q2];exact Nat.le_refl _,q1,fun b hb hne2=>?_⟩
     ·have hj2:j < (i+1) * 2:=by
       rcases Nat.lt_or_ge j ((i+1) * 2) with h | h
       ·exact h
       ·exfalso
        apply hj
        rw [List.getElem?_eq_none_iff,List.length_append,List.length_append,List.length_take,List.length_drop]
        omega
      rw [zrm hvl hul (by omega),a3 j,hul]
      rcases Nat.lt_or_ge j (i * 2) with c1 | c1
      ·rw [if_neg (by omega),if_pos c1,hv1 j vs[j] (List.getElem?_eq_getElem (by omega)),List.getElem?_eq_getElem (by omega)]
      ·rw [if_pos (by omega),if_neg (by omega),if_pos (by omega),Nat.zero_add]
     ·have hbb:b≠b1:=fun h=>hne2 hp (by rw [h])
      rw [zci _ _ hbb]
end Go.Proofs


namespace Go.Proofs
open Go.Ev Go.RowKit Go.Lib Go.Sort
def C123:List AV→Option AV:=specP (X:=Int × Unit) fun x=>zbk x.1
theorem zsd {n:Int} {y} (h:zbk n=some y):C123 [av .shr n]=some (Res.res y):=zaf (X:=Int × Unit) (F:=fun x=>zbk x.1) (x:=(n,())) h
theorem pc123:PC Tryz.prog 123 C123:=pcG123

def C87:List AV→Option AV:=specP (X:=List ByteArray × ByteArray × Unit) fun x=>zey x.1 x.2.1
theorem C87_eq {l:List ByteArray} {s:ByteArray} {y} (h:zey l s=some y):C87 [av .shr l,av .shr s]=some (Res.res y):=zaf (X:=List ByteArray × ByteArray × Unit) (F:=fun x=>zey x.1 x.2.1) (x:=(l,s,())) h
theorem pc87:PC Tryz.prog 87 C87:=pcG87

theorem INFO3:(Tryz.prog.info? 3).map (fun i=>(i.zero,i.size,i.bytes))=some (some (.int .i64 0),1,8):=by kernel_rfl
set_option maxHeartbeats 2000000 in
set_option maxRecDepth 100000 in
theorem clone77_nil (n c:Nat) (w:World):Calls Tryz.prog 77 #[.slice none n c] w fun e w'=>e=.returned (.slice none 0 0)∧w'=w:=by
 have q24:∀ (w:World) (a:Option Addr) (n c n' c':Nat),(binOp .eql 24 (.slice a n c) (.slice none n' c')).run Tryz.prog w=.ok (.bool a.isNone) w:=fun w a n c n' c'=>Lib.run_eql_slice_nil w _ _ a n c n' c' Tryz.underlying24
 go_enter Tryz.func77,Tryz.ntmps77
 go_wp2
 go_ret
 exact ⟨rfl,rfl⟩

set_option maxHeartbeats 2000000 in
set_option maxRecDepth 100000 in
theorem clone77_zero (a:Addr) (c:Nat) (w:World) :
 Calls Tryz.prog 77 #[.slice (some a) 0 c] w fun e w'=>∃ b,e=.returned (.slice b 0 0)∧w'=w.alloc (.cells #[] 3):=by
 have q24:∀ (w:World) (a:Option Addr) (n c n' c':Nat),(binOp .eql 24 (.slice a n c) (.slice none n' c')).run Tryz.prog w=.ok (.bool a.isNone) w:=fun w a n c n' c'=>Lib.run_eql_slice_nil w _ _ a n c n' c' Tryz.underlying24
 go_enter Tryz.func77,Tryz.ntmps77
 go_wp2
 go_ret
 exact ⟨_,rfl,rfl⟩

set_option maxHeartbeats 2000000 in
set_option maxRecDepth 100000 in
theorem clone77_row (b off n c:Nat) (vs:List Value) (w:World) (hlen:vs.length=n * 1) (hbig:n * 8≤140737488355328) (hsc:∀ u∈vs,scal u=true) (hc:∀ j u,vs[j]?=some u→w.cell? ⟨b,off+j,none⟩=some u) :
 Calls Tryz.prog 77 #[.slice (some ⟨b,off,none⟩) n c] w fun e w'=>∃ v',e=.returned v'∧w'.ownsRow w.heap.size 3 1 v' n vs∧Below w.heap.size w w':=by
 obtain ⟨i0,hi,hz0,hz1,hz2⟩:=info_parts INFO3
 have q24:∀ (w:World) (a:Option Addr) (n c n' c':Nat),(binOp .eql 24 (.slice a n c) (.slice none n' c')).run Tryz.prog w=.ok (.bool a.isNone) w:=fun w a n c n' c'=>Lib.run_eql_slice_nil w _ _ a n c n' c' Tryz.underlying24
 have u24:∀ w,Sem.run Tryz.prog (underlying 24) w=.ok (TypeDesc.slice 3) w:=run_underlying Tryz.underlying24
 have A:Aside (∀ j u,vs[j]?=some u→w.cell? ⟨b,off+j,none⟩=some u):=hc
 clear hc
 go_enter Tryz.func77,Tryz.ntmps77
 go_wp2_with (at_builtin;refine wpList_append_own _ rfl _ _ 24 rfl w.heap.size 3 i0 (.int .i64 0) 1 8 Tryz.underlying24 hi hz0 hz1 hz2 rfl (by decide) _ _ _ rfl (World.ownsRow_made w #[] 0 (Nat.le_refl _) (Nat.zero_le _) rfl) ⟨b,off,none⟩ n c vs rfl ?qc1 ?qc2 ?qc3 ?qc4 ?qc5 ?qc6 ?_)
 case qc1=>exact hlen
 case qc2 =>
  intro j u hj
  rw [Addr.add_lit]
  exact Lib.cell?_alloc_some _ (A.out j u hj)
 case qc3 =>
  intro u hu
  have:=hsc u hu
  cases u <;> first | rfl | cases this
 case qc4=>unfold maxLen;omega
 case qc5=>omega
 case qc6=>simp
 intro v' w1 hown hgrow hnil
 go_wp2
 go_ret
 refine ⟨_,rfl,by simpa using hown,?_⟩
 refine ⟨hgrow.os,hgrow.tape,hgrow.output,?_,fun k hk=>?_⟩
 ·have:=hgrow.size;rw [World.size_alloc] at this;omega
 ·rw [hgrow.block k (by rw [World.size_alloc];omega) (by simp [Value.ownBlock];omega),zga w _ hk]

def C77:List AV→Option AV:=specP (X:=List Int × Unit) fun x=>zcc x.1
theorem C77_eq {s:List Int} {y} (h:zcc s=some y):C77 [av .shr s]=some (Res.res y):=zaf (X:=List Int × Unit) (F:=fun x=>zcc x.1) (x:=(s,())) h
theorem pc77:PC Tryz.prog 77 C77 :=
 pc_clone (α:=Int) (e:=3) (bytes:=8) ⟨Tryz.f77,Tryz.func77,by kernel_rfl,by kernel_rfl⟩ clone77_nil
  (fun a c w=>(clone77_zero a c w).mono fun e w' h=>by
   obtain ⟨b,rfl,rfl⟩:=h
   exact ⟨b,rfl,rfl,rfl,rfl,by rw [World.size_alloc];omega,fun k hk=>zga w _ hk⟩)
  clone77_row

def C140:List AV→Option AV:=specP (X:=Int × Unit) fun x=>zgv x.1
theorem C140_eq {n:Int} {y} (h:zgv n=some y):C140 [av .shr n]=some (Res.res y):=zaf (X:=Int × Unit) (F:=fun x=>zgv x.1) (x:=(n,())) h
theorem pc140:PC Tryz.prog 140 C140:=pcG140

def C141:List AV→Option AV:=specP (X:=List ByteArray × ByteArray × Unit) fun x=>strings_Join x.1 x.2.1
theorem C141_eq {l:List ByteArray} {s:ByteArray} {y} (h:strings_Join l s=some y):C141 [av .shr l,av .shr s]=some (Res.res y):=zaf (X:=List ByteArray × ByteArray × Unit) (F:=fun x=>strings_Join x.1 x.2.1) (x:=(l,s,())) h
theorem pc141:PC Tryz.prog 141 C141:=pcG141

def C42:List AV→Option AV:=specO (X:=List TStructure × Int × List TStructure × Unit) fun x=>zaw x.1 x.2.1 x.2.2.1
theorem C42_eq {l:List TStructure} {i:Int} {v:List TStructure} {y} (h:zaw l i v=some y):C42 [av .own l,av .own i,av .own v]=some (Res.res y):=specO_eq (X:=List TStructure × Int × List TStructure × Unit) (F:=fun x=>zaw x.1 x.2.1 x.2.2.1) (x:=(l,i,v,())) h
theorem po42:PO Tryz.prog 42 C42:=poG42

def C143:List AV→Option AV:=specP (X:=List (List Int) × Unit) fun x=>zhq x.1
end Go.Proofs


namespace Go.Proofs
open Go.Ev
open Enc (enc)
abbrev G46 (g:Cfg):Prop:=Has Tryz.prog g 46 Tryz.f46 [] [(2,rowKp)] [] []
set_option maxHeartbeats 4000000 in
set_option maxRecDepth 100000 in
theorem mk46 {g:Cfg} (G:G46 g):MkOK g 46 false zae:=by
 have gP:=G.P;have gt:=G.tk;have gr:=G.ro;have gg:=G.gh
 refine zig fun xs k d e r mem hx hd hT hR=>?_
 have hl:xs.length≤9223372036854775806:=by have:=hx.1;omega
 refine zny (Tryz.f46.body.getD .skip) [.tmp 4] G Tryz.func46 (by kernel_rfl) (by simp [Tryz.ntmps46]) rfl ?_
 simp [Tryz.f46,gP,gt,gr,gg]
 refine zlr zdv xs k d r mem (G.kp (2,rowKp) (by simp)) (by simp) (by simp) (by simp) hR (MemU.refl _ _ _) hl ?_ ?_ ?_
 ·intro i A B x k' σ' hx2 hi hi2 hA e0 e1 e5 R0 M0
  have hxl:=hx.2 x hx2
  have hlt:ltI (i:Int) (xs.length:Int)=true:=by simpa [ltI] using hi
  have hinc:addI (i:Int) 1=((i+1:Nat):Int):=zap (by omega) (by omega)
  have R0:RowI σ'.mem d r (A ++ ((.sc (.int .i64 x)) :: B)):=R0
  have C0:=R0.1
  obtain ⟨P0,hP0⟩:∃ P:List D,P=A ++ []:=⟨_,rfl⟩
  have l0:P0.length=i:=by rw [hP0,List.length_append,hA];simp
  have q0:A ++ ((.sc (.int .i64 x)) :: B)=P0 ++ ((.sc (.int .i64 x)) :: (B)):=by rw [hP0,List.append_assoc];rfl
  obtain ⟨w1,R1,M1'⟩:=zoh (v':=.int .i64 k') q0 R0
  have q0':P0 ++ (.sc (.int .i64 k') :: (B))=A ++ ((.sc (.int .i64 k')) :: B):=by rw [hP0,List.append_assoc];rfl
  rw [q0'] at w1 R1 M1'
  rw [l0] at w1
  have M1:=M0.trans M1'
  have h0:i+1≤(bxL d r 0 (A ++ ((.sc (.int .i64 x)) :: B))).length:=by rw [zdh,q0,List.length_append,List.length_cons,l0];omega
  simp [gP,gt,gr,gg,e0,e1,e5,hlt,hinc,hi,C0,w1,h0]
  exact ⟨_,rfl,by simp [e0],by simp [zdv],by simp,R1,M1⟩
 ·intro z k' σ' e0 e1 e5
  have hlt:ltI (xs.length:Int) (xs.length:Int)=false:=by simp [ltI]
  simp [gP,gt,gr,gg,e0,e1,e5,hlt]
  exact ⟨_,rfl,by simp [e1],rfl⟩
 ·intro σ' e1 eR eM
  have hT2:memKill (fun k=>decide (e < k.1)) σ'.mem=σ'.mem:=eM.tight hd hT
  simp [gP,gt,gr,gg,e1,Goal,FnEndM,hT2]
  exact ⟨_,_,⟨rfl,rfl⟩,rfl,eM,eR⟩

abbrev G45 (g:Cfg):Prop:=Has Tryz.prog g 45 Tryz.f45 [] [(2,rowKp)] [] []
set_option maxHeartbeats 4000000 in
set_option maxRecDepth 100000 in
theorem mk45 {g:Cfg} (G:G45 g) (G_46:G46 g):MkOK g 45 false zah:=by
 have gP:=G.P;have gt:=G.tk;have gr:=G.ro;have gg:=G.gh
 have i_46:=G_46.no
 refine zig fun xs k d e r mem hx hd hT hR=>?_
 have hl:xs.length≤9223372036854775806:=by have:=hx.1;omega
 refine zny (Tryz.f45.body.getD .skip) [.tmp 4] G Tryz.func45 (by kernel_rfl) (by simp [Tryz.ntmps45]) rfl ?_
 simp [Tryz.f45,gP,gt,gr,gg]
 refine zlr zdj xs k d r mem (G.kp (2,rowKp) (by simp)) (by simp) (by simp) (by simp) hR (MemU.refl _ _ _) hl ?_ ?_ ?_
 ·intro i A B x k' σ' hx2 hi hi2 hA e0 e1 e5 R0 M0
  have hxl:=hx.2 x hx2
  have hlt:ltI (i:Int) (xs.length:Int)=true:=by simpa [ltI] using hi
  have hinc:addI (i:Int) 1=((i+1:Nat):Int):=zap (by omega) (by omega)
  have R0:RowI σ'.mem d r (A ++ ((.sl x.vars.length (encL x.vars)) :: (.sl x.reach.length (encL x.reach)) :: (.sc (.int .i64 x.shared)) :: (.sc (.int .i64 x.many)) :: B)):=R0
  have C0:=R0.1
  obtain ⟨P0,hP0⟩:∃ P:List D,P=A ++ []:=⟨_,rfl⟩
  have l0:P0.length=i * 4:=by rw [hP0,List.length_append,hA];simp
  have q0:A ++ ((.sl x.vars.length (encL x.vars)) :: (.sl x.reach.length (encL x.reach)) :: (.sc (.int .i64 x.shared)) :: (.sc (.int .i64 x.many)) :: B)=P0 ++ ((.sl x.vars.length (encL x.vars)) :: ((.sl x.reach.length (encL x.reach)) :: (.sc (.int .i64 x.shared)) :: (.sc (.int .i64 x.many)) :: B)):=by rw [hP0,List.append_assoc];rfl
  have s0:=zpv (d:=d) (r:=r) q0 l0
  simp only [bxC] at s0
  simp [gP,gt,gr,gg,e0,e1,e5,hlt,hinc,hi,i_46,C0,s0]
  obtain ⟨m1,hc1,R1,M1'⟩:=zjq (mk46 G_46 x.vars k' hxl.1) q0 (show d≤e+1 by omega) (M0.tight hd hT).up R0
  refine zfl _ _ rfl hc1 ?_
  have R1:RowI m1 d r (A ++ ((.sl ((zae x.vars k').1).length (encL ((zae x.vars k').1))) :: (.sl x.reach.length (encL x.reach)) :: (.sc (.int .i64 x.shared)) :: (.sc (.int .i64 x.many)) :: B)):=by rw [hP0,List.append_assoc] at R1;exact R1
  have M1:=M0.trans M1'
  have C1:=R1.1
  obtain ⟨P1,hP1⟩:∃ P:List D,P=A ++ [.sl ((zae x.vars k').1).length (encL ((zae x.vars k').1))]:=⟨_,rfl⟩
  have l1:P1.length=i * 4+1:=by rw [hP1,List.length_append,hA];simp
  have q1:A ++ ((.sl ((zae x.vars k').1).length (encL ((zae x.vars k').1))) :: (.sl x.reach.length (encL x.reach)) :: (.sc (.int .i64 x.shared)) :: (.sc (.int .i64 x.many)) :: B)=P1 ++ ((.sl x.reach.length (encL x.reach)) :: ((.sc (.int .i64 x.shared)) :: (.sc (.int .i64 x.many)) :: B)):=by rw [hP1,List.append_assoc];rfl
  have s1:=zpv (d:=d) (r:=r) q1 l1
  simp only [bxC] at s1
  simp [gP,gt,gr,gg,e0,e1,e5,hlt,hinc,hi,i_46,C1,s1]
  obtain ⟨m2,hc2,R2,M2'⟩:=zjq (mk46 G_46 x.reach ((zae x.vars k').2) hxl.2) q1 (show d≤e+1 by omega) (M1.tight hd hT).up R1
  refine zfl _ _ rfl hc2 ?_
  have R2:RowI m2 d r (A ++ ((.sl ((zae x.vars k').1).length (encL ((zae x.vars k').1))) :: (.sl ((zae x.reach ((zae x.vars k').2)).1).length (encL ((zae x.reach ((zae x.vars k').2)).1))) :: (.sc (.int .i64 x.shared)) :: (.sc (.int .i64 x.many)) :: B)):=by rw [hP1,List.append_assoc] at R2;exact R2
  have M2:=M1.trans M2'
  have C2:=R2.1
  obtain ⟨P2,hP2⟩:∃ P:List D,P=A ++ [.sl ((zae x.vars k').1).length (encL ((zae x.vars k').1)),.sl ((zae x.reach ((zae x.vars k').2)).1).length (encL ((zae x.reach ((zae x.vars k').2)).1))]:=⟨_,rfl⟩
  have l2:P2.length=i * 4+2:=by rw [hP2,List.length_append,hA];simp
  have q2:A ++ ((.sl ((zae x.vars k').1).length (encL ((zae x.vars k').1))) :: (.sl ((zae x.reach ((zae x.vars k').2)).1).length (encL ((zae x.reach ((zae x.vars k').2)).1))) :: (.sc (.int .i64 x.shared)) :: (.sc (.int .i64 x.many)) :: B)=P2 ++ ((.sc (.int .i64 x.shared)) :: ((.sc (.int .i64 x.many)) :: B)):=by rw [hP2,List.append_assoc];rfl
  obtain ⟨w3,R3,M3'⟩:=zoh (v':=.int .i64 ((zae x.reach ((zae x.vars k').2)).2)) q2 R2
  have q2':P2 ++ (.sc (.int .i64 ((zae x.reach ((zae x.vars k').2)).2)) :: ((.sc (.int .i64 x.many)) :: B))=A ++ ((.sl ((zae x.vars k').1).length (encL ((zae x.vars k').1))) :: (.sl ((zae x.reach ((zae x.vars k').2)).1).length (encL ((zae x.reach ((zae x.vars k').2)).1))) :: (.sc (.int .i64 ((zae x.reach ((zae x.vars k').2)).2))) :: (.sc (.int .i64 x.many)) :: B):=by rw [hP2,List.append_assoc];rfl
  rw [q2'] at w3 R3 M3'
  rw [l2] at w3
  have M3:=M2.trans M3'
  have h2:i * 4+2+1≤(bxL d r 0 (A ++ ((.sl ((zae x.vars k').1).length (encL ((zae x.vars k').1))) :: (.sl ((zae x.reach ((zae x.vars k').2)).1).length (encL ((zae x.reach ((zae x.vars k').2)).1))) :: (.sc (.int .i64 x.shared)) :: (.sc (.int .i64 x.many)) :: B))).length:=by rw [zdh,q2,List.length_append,List.length_cons,l2];omega
  obtain ⟨P3,hP3⟩:∃ P:List D,P=A ++ [.sl ((zae x.vars k').1).length (encL ((zae x.vars k').1)),.sl ((zae x.reach ((zae x.vars k').2)).1).length (encL ((zae x.reach ((zae x.vars k').2)).1)),.sc (.int .i64 ((zae x.reach ((zae x.vars k').2)).2))]:=⟨_,rfl⟩
  have l3:P3.length=i * 4+3:=by rw [hP3,List.length_append,hA];simp
  have q3:A ++ ((.sl ((zae x.vars k').1).length (encL ((zae x.vars k').1))) :: (.sl ((zae x.reach ((zae x.vars k').2)).1).length (encL ((zae x.reach ((zae x.vars k').2)).1))) :: (.sc (.int .i64 ((zae x.reach ((zae x.vars k').2)).2))) :: (.sc (.int .i64 x.many)) :: B)=P3 ++ ((.sc (.int .i64 x.many)) :: (B)):=by rw [hP3,List.append_assoc];rfl
  obtain ⟨w4,R4,M4'⟩:=zoh (v':=.int .i64 (addI ((zae x.reach ((zae x.vars k').2)).2) 1)) q3 R3
  have q3':P3 ++ (.sc (.int .i64 (addI ((zae x.reach ((zae x.vars k').2)).2) 1)) :: (B))=A ++ ((.sl ((zae x.vars k').1).length (encL ((zae x.vars k').1))) :: (.sl ((zae x.reach ((zae x.vars k').2)).1).length (encL ((zae x.reach ((zae x.vars k').2)).1))) :: (.sc (.int .i64 ((zae x.reach ((zae x.vars k').2)).2))) :: (.sc (.int .i64 (addI ((zae x.reach ((zae x.vars k').2)).2) 1))) :: B):=by rw [hP3,List.append_assoc];rfl
  rw [q3'] at w4 R4 M4'
  rw [l3] at w4
  have M4:=M3.trans M4'
  have h3:i * 4+3+1≤(bxL d r 0 (A ++ ((.sl ((zae x.vars k').1).length (encL ((zae x.vars k').1))) :: (.sl ((zae x.reach ((zae x.vars k').2)).1).length (encL ((zae x.reach ((zae x.vars k').2)).1))) :: (.sc (.int .i64 ((zae x.reach ((zae x.vars k').2)).2))) :: (.sc (.int .i64 x.many)) :: B))).length:=by rw [zdh,q3,List.length_append,List.length_cons,l3];omega
  simp [gP,gt,gr,gg,e0,e1,e5,hlt,hinc,hi,i_46,C2,w3,h2,w4,h3]
  exact ⟨_,rfl,by simp [e0],by simp [zdj],by simp,R4,M4⟩
 ·intro z k' σ' e0 e1 e5
  have hlt:ltI (xs.length:Int) (xs.length:Int)=false:=by simp [ltI]
  simp [gP,gt,gr,gg,e0,e1,e5,hlt]
  exact ⟨_,rfl,by simp [e1],rfl⟩
 ·intro σ' e1 eR eM
  have hT2:memKill (fun k=>decide (e < k.1)) σ'.mem=σ'.mem:=eM.tight hd hT
  simp [gP,gt,gr,gg,e1,Goal,FnEndM,hT2]
  exact ⟨_,_,⟨rfl,rfl⟩,rfl,eM,eR⟩

abbrev G15 (g:Cfg):Prop:=Has Tryz.prog g 15 Tryz.f15 [] [(2,rowKp)] [] []
set_option maxHeartbeats 4000000 in
set_option maxRecDepth 100000 in
theorem mk15 {g:Cfg} (G:G15 g) (G_45:G45 g) (G_46:G46 g):MkOK g 15 false zal:=by
 have gP:=G.P;have gt:=G.tk;have gr:=G.ro;have gg:=G.gh
 have i_45:=G_45.no
 have i_46:=G_46.no
 refine zig fun xs k d e r mem hx hd hT hR=>?_
 have hl:xs.length≤9223372036854775806:=by have:=hx.1;omega
 refine zny (Tryz.f15.body.getD .skip) [.tmp 4] G Tryz.func15 (by kernel_rfl) (by simp [Tryz.ntmps15]) rfl ?_
 simp [Tryz.f15,gP,gt,gr,gg]
 refine zlr zbi xs k d r mem (G.kp (2,rowKp) (by simp)) (by simp) (by simp) (by simp) hR (MemU.refl _ _ _) hl ?_ ?_ ?_
 ·intro i A B x k' σ' hx2 hi hi2 hA e0 e1 e5 R0 M0
  have hxl:=hx.2 x hx2
  have hlt:ltI (i:Int) (xs.length:Int)=true:=by simpa [ltI] using hi
  have hinc:addI (i:Int) 1=((i+1:Nat):Int):=zap (by omega) (by omega)
  have R0:RowI σ'.mem d r (A ++ ((.sl x.nodes.length (encL x.nodes)) :: (.sl x.next.length (encL x.next)) :: B)):=R0
  have C0:=R0.1
  obtain ⟨P0,hP0⟩:∃ P:List D,P=A ++ []:=⟨_,rfl⟩
  have l0:P0.length=i * 2:=by rw [hP0,List.length_append,hA];simp
  have q0:A ++ ((.sl x.nodes.length (encL x.nodes)) :: (.sl x.next.length (encL x.next)) :: B)=P0 ++ ((.sl x.nodes.length (encL x.nodes)) :: ((.sl x.next.length (encL x.next)) :: B)):=by rw [hP0,List.append_assoc];rfl
  have s0:=zpv (d:=d) (r:=r) q0 l0
  simp only [bxC] at s0
  simp [gP,gt,gr,gg,e0,e1,e5,hlt,hinc,hi,i_45,i_46,C0,s0]
  obtain ⟨m1,hc1,R1,M1'⟩:=zjq (mk45 G_45 G_46 x.nodes k' hxl.1) q0 (show d≤e+1 by omega) (M0.tight hd hT).up R0
  refine zfl _ _ rfl hc1 ?_
  have R1:RowI m1 d r (A ++ ((.sl ((zah x.nodes k').1).length (encL ((zah x.nodes k').1))) :: (.sl x.next.length (encL x.next)) :: B)):=by rw [hP0,List.append_assoc] at R1;exact R1
  have M1:=M0.trans M1'
  have C1:=R1.1
  obtain ⟨P1,hP1⟩:∃ P:List D,P=A ++ [.sl ((zah x.nodes k').1).length (encL ((zah x.nodes k').1))]:=⟨_,rfl⟩
  have l1:P1.length=i * 2+1:=by rw [hP1,List.length_append,hA];simp
  have q1:A ++ ((.sl ((zah x.nodes k').1).length (encL ((zah x.nodes k').1))) :: (.sl x.next.length (encL x.next)) :: B)=P1 ++ ((.sl x.next.length (encL x.next)) :: (B)):=by rw [hP1,List.append_assoc];rfl
  have s1:=zpv (d:=d) (r:=r) q1 l1
  simp only [bxC] at s1
  simp [gP,gt,gr,gg,e0,e1,e5,hlt,hinc,hi,i_45,i_46,C1,s1]
  obtain ⟨m2,hc2,R2,M2'⟩:=zjq (mk46 G_46 x.next ((zah x.nodes k').2) hxl.2) q1 (show d≤e+1 by omega) (M1.tight hd hT).up R1
  refine zfl _ _ rfl hc2 ?_
  have R2:RowI m2 d r (A ++ ((.sl ((zah x.nodes k').1).length (encL ((zah x.nodes k').1))) :: (.sl ((zae x.next ((zah x.nodes k').2)).1).length (encL ((zae x.next ((zah x.nodes k').2)).1))) :: B)):=by rw [hP1,List.append_assoc] at R2;exact R2
  have M2:=M1.trans M2'
  have C2:=R2.1
  simp [gP,gt,gr,gg,e0,e1,e5,hlt,hinc,hi,i_45,i_46,C2]
  exact ⟨_,rfl,by simp [e0],by simp [zbi],by simp,R2,M2⟩
 ·intro z k' σ' e0 e1 e5
  have hlt:ltI (xs.length:Int) (xs.length:Int)=false:=by simp [ltI]
  simp [gP,gt,gr,gg,e0,e1,e5,hlt]
  exact ⟨_,rfl,by simp [e1],rfl⟩
 ·intro σ' e1 eR eM
  have hT2:memKill (fun k=>decide (e < k.1)) σ'.mem=σ'.mem:=eM.tight hd hT
  simp [gP,gt,gr,gg,e1,Goal,FnEndM,hT2]
  exact ⟨_,_,⟨rfl,rfl⟩,rfl,eM,eR⟩

abbrev G16 (g:Cfg):Prop:=Has Tryz.prog g 16 Tryz.f16 [] [] [] []
set_option maxHeartbeats 4000000 in
set_option maxRecDepth 100000 in
theorem mk16 {g:Cfg} (G:G16 g) (G_45:G45 g) (G_46:G46 g):MkOK g 16 true zep:=by
 have gP:=G.P;have gt:=G.tk;have gr:=G.ro;have gg:=G.gh
 have i_45:=G_45.no
 have i_46:=G_46.no
 intro x k hx
 have h0:=mk45 G_45 G_46 x.nodes k hx.1
 have h1:=mk46 G_46 x.next ((zah x.nodes k).2) hx.2
 have eX:enc x=[.sl x.nodes.length (encL x.nodes),.sl x.next.length (encL x.next)]:=rfl
 have eY:enc (zep x k).1=[.sl ((zah x.nodes k).1).length (encL ((zah x.nodes k).1)),.sl ((zae x.next ((zah x.nodes k).2)).1).length (encL ((zae x.next ((zah x.nodes k).2)).1))]:=rfl
 refine ⟨fun d p i=>?_,fun d e p i mem hd hT hs=>?_⟩
 ·rw [eX,eY]
  simp only [bxL]
  have e0:=h0.1 d p (i)
  have e1:=h1.1 d p (i+1)
  simp only [zil,bxL,List.cons.injEq,and_true,List.cons_append,List.nil_append] at e0 e1
  rw [e0,e1]
 ·have n0:mem (e+1,2)=none:=hT.none (by simp)
  rw [eX] at hs ⊢
  rw [eY]
  have ha:avC true (bxL d p i [.sl x.nodes.length (encL x.nodes),.sl x.next.length (encL x.next)])=.ag [.bs (d,pk (p ++ [i])) x.nodes.length (szD x.nodes.length (encL x.nodes)),.bs (d,pk (p ++ [i+1])) x.next.length (szD x.next.length (encL x.next))]:=rfl
  rw [ha]
  suffices hh:∃ R m,callo g e 16 [.ag [.bs (d,pk (p ++ [i])) x.nodes.length (szD x.nodes.length (encL x.nodes)),.bs (d,pk (p ++ [i+1])) x.next.length (szD x.next.length (encL x.next))],.one (.s (.int .i64 k))] mem=some (R,m)∧R=.one (.s (.int .i64 (zep x k).2))∧MemR mem m d p i 2∧subL m d p i [.sl ((zah x.nodes k).1).length (encL ((zah x.nodes k).1)),.sl ((zae x.next ((zah x.nodes k).2)).1).length (encL ((zae x.next ((zah x.nodes k).2)).1))] by
   obtain ⟨R,m,hc,rfl,hr⟩:=hh
   exact ⟨m,hc,hr⟩
  refine zny (Tryz.f16.body.getD .skip) [.tmp 4] G Tryz.func16 (by kernel_rfl) (by simp [Tryz.ntmps16]) rfl ?_
  simp [Tryz.f16,gP,gt,gr,gg,n0,i_45,i_46]
  have S0:subL (upd mem (e+1,2) (some [.bs (d,pk (p ++ [i])) x.nodes.length (szD x.nodes.length (encL x.nodes)),.bs (d,pk (p ++ [i+1])) x.next.length (szD x.next.length (encL x.next))])) d p i [.sl x.nodes.length (encL x.nodes),.sl x.next.length (encL x.next)]:=zjm (fun j q _=>by rw [zfs,if_neg (by intro hh;have:=(Prod.mk.inj hh).1;omega)]) hs
  have T0:Tight (e+1) (upd mem (e+1,2) (some [.bs (d,pk (p ++ [i])) x.nodes.length (szD x.nodes.length (encL x.nodes)),.bs (d,pk (p ++ [i+1])) x.next.length (szD x.next.length (encL x.next))])):=hT.up.upd (by simp) (by simp;omega)
  have M0:MemR (upd mem (e+1,2) (some [.bs (d,pk (p ++ [i])) x.nodes.length (szD x.nodes.length (encL x.nodes)),.bs (d,pk (p ++ [i+1])) x.next.length (szD x.next.length (encL x.next))])) (upd mem (e+1,2) (some [.bs (d,pk (p ++ [i])) x.nodes.length (szD x.nodes.length (encL x.nodes)),.bs (d,pk (p ++ [i+1])) x.next.length (szD x.next.length (encL x.next))])) d p i 2:=MemR.refl _ _ _ _ _
  obtain ⟨m1,hc1,S1,M1'⟩:=znw (pre:=[]) h0 rfl (show d≤e+1 by omega) T0 S0
  refine zfl _ _ rfl hc1 ?_
  have M1:=M0.trans M1'
  have T1:Tight (e+1) m1:=M1.tight (show d≤e+1 by omega) T0
  have b1:m1 (e+1,2)=some [.bs (d,pk (p ++ [i])) x.nodes.length (szD x.nodes.length (encL x.nodes)),.bs (d,pk (p ++ [i+1])) x.next.length (szD x.next.length (encL x.next))]:=by rw [M1.far _ (fun j q _ _ hh=>by have:=(Prod.mk.inj hh).1;omega),zfs,if_pos rfl]
  simp [gP,gt,gr,gg,b1,i_45,i_46]
  obtain ⟨m2,hc2,S2,M2'⟩:=znw (pre:=[.sl ((zah x.nodes k).1).length (encL ((zah x.nodes k).1))]) h1 rfl (show d≤e+1 by omega) T1 S1
  refine zfl _ _ rfl hc2 ?_
  have M2:=M1.trans M2'
  have T2:Tight (e+1) m2:=M2.tight (show d≤e+1 by omega) T0
  have b2:m2 (e+1,2)=some [.bs (d,pk (p ++ [i])) x.nodes.length (szD x.nodes.length (encL x.nodes)),.bs (d,pk (p ++ [i+1])) x.next.length (szD x.next.length (encL x.next))]:=by rw [M2.far _ (fun j q _ _ hh=>by have:=(Prod.mk.inj hh).1;omega),zfs,if_pos rfl]
  simp [gP,gt,gr,gg,b2,i_45,i_46,Goal,FnEndM]
  exact ⟨_,_,⟨rfl,rfl⟩,rfl,byval_end hd hT (cs:=[.sl x.nodes.length (encL x.nodes),.sl x.next.length (encL x.next)]) (i0:=i) M2 S2⟩

abbrev G27 (g:Cfg):Prop:=Has Tryz.prog g 27 Tryz.f27 [] [(2,rowKp)] [] []
set_option maxHeartbeats 4000000 in
set_option maxRecDepth 100000 in
theorem mk27 {g:Cfg} (G:G27 g) (G_46:G46 g):MkOK g 27 false zli:=by
 have gP:=G.P;have gt:=G.tk;have gr:=G.ro;have gg:=G.gh
 have i_46:=G_46.no
 refine zig fun xs k d e r mem hx hd hT hR=>?_
 have hl:xs.length≤9223372036854775806:=by have:=hx.1;omega
 refine zny (Tryz.f27.body.getD .skip) [.tmp 4] G Tryz.func27 (by kernel_rfl) (by simp [Tryz.ntmps27]) rfl ?_
 simp [Tryz.f27,gP,gt,gr,gg]
 refine zlr zie xs k d r mem (G.kp (2,rowKp) (by simp)) (by simp) (by simp) (by simp) hR (MemU.refl _ _ _) hl ?_ ?_ ?_
 ·intro i A B x k' σ' hx2 hi hi2 hA e0 e1 e5 R0 M0
  have hxl:=hx.2 x hx2
  have hlt:ltI (i:Int) (xs.length:Int)=true:=by simpa [ltI] using hi
  have hinc:addI (i:Int) 1=((i+1:Nat):Int):=zap (by omega) (by omega)
  have R0:RowI σ'.mem d r (A ++ ((.sl x.vars.length (encL x.vars)) :: (.sl x.next.length (encL x.next)) :: B)):=R0
  have C0:=R0.1
  obtain ⟨P0,hP0⟩:∃ P:List D,P=A ++ []:=⟨_,rfl⟩
  have l0:P0.length=i * 2:=by rw [hP0,List.length_append,hA];simp
  have q0:A ++ ((.sl x.vars.length (encL x.vars)) :: (.sl x.next.length (encL x.next)) :: B)=P0 ++ ((.sl x.vars.length (encL x.vars)) :: ((.sl x.next.length (encL x.next)) :: B)):=by rw [hP0,List.append_assoc];rfl
  have s0:=zpv (d:=d) (r:=r) q0 l0
  simp only [bxC] at s0
  simp [gP,gt,gr,gg,e0,e1,e5,hlt,hinc,hi,i_46,C0,s0]
  obtain ⟨m1,hc1,R1,M1'⟩:=zjq (mk46 G_46 x.vars k' hxl.1) q0 (show d≤e+1 by omega) (M0.tight hd hT).up R0
  refine zfl _ _ rfl hc1 ?_
  have R1:RowI m1 d r (A ++ ((.sl ((zae x.vars k').1).length (encL ((zae x.vars k').1))) :: (.sl x.next.length (encL x.next)) :: B)):=by rw [hP0,List.append_assoc] at R1;exact R1
  have M1:=M0.trans M1'
  have C1:=R1.1
  obtain ⟨P1,hP1⟩:∃ P:List D,P=A ++ [.sl ((zae x.vars k').1).length (encL ((zae x.vars k').1))]:=⟨_,rfl⟩
  have l1:P1.length=i * 2+1:=by rw [hP1,List.length_append,hA];simp
  have q1:A ++ ((.sl ((zae x.vars k').1).length (encL ((zae x.vars k').1))) :: (.sl x.next.length (encL x.next)) :: B)=P1 ++ ((.sl x.next.length (encL x.next)) :: (B)):=by rw [hP1,List.append_assoc];rfl
  have s1:=zpv (d:=d) (r:=r) q1 l1
  simp only [bxC] at s1
  simp [gP,gt,gr,gg,e0,e1,e5,hlt,hinc,hi,i_46,C1,s1]
  obtain ⟨m2,hc2,R2,M2'⟩:=zjq (mk46 G_46 x.next ((zae x.vars k').2) hxl.2) q1 (show d≤e+1 by omega) (M1.tight hd hT).up R1
  refine zfl _ _ rfl hc2 ?_
  have R2:RowI m2 d r (A ++ ((.sl ((zae x.vars k').1).length (encL ((zae x.vars k').1))) :: (.sl ((zae x.next ((zae x.vars k').2)).1).length (encL ((zae x.next ((zae x.vars k').2)).1))) :: B)):=by rw [hP1,List.append_assoc] at R2;exact R2
  have M2:=M1.trans M2'
  have C2:=R2.1
  simp [gP,gt,gr,gg,e0,e1,e5,hlt,hinc,hi,i_46,C2]
  exact ⟨_,rfl,by simp [e0],by simp [zie],by simp,R2,M2⟩
 ·intro z k' σ' e0 e1 e5
  have hlt:ltI (xs.length:Int) (xs.length:Int)=false:=by simp [ltI]
  simp [gP,gt,gr,gg,e0,e1,e5,hlt]
  exact ⟨_,rfl,by simp [e1],rfl⟩
 ·intro σ' e1 eR eM
  have hT2:memKill (fun k=>decide (e < k.1)) σ'.mem=σ'.mem:=eM.tight hd hT
  simp [gP,gt,gr,gg,e1,Goal,FnEndM,hT2]
  exact ⟨_,_,⟨rfl,rfl⟩,rfl,eM,eR⟩
end Go.Proofs


set_option maxHeartbeats 4000000
set_option maxRecDepth 100000
namespace Go.Proofs
open Go.Ev
def C29:List AV→Option AV:=specP (X:=(List Int) × Int × Unit) fun x=>laws_szIntS x.1 x.2.1
theorem C29_eq {a_ left} {y} (h:laws_szIntS a_ left=some y):C29 [av .shr a_,av .shr left]=some (Res.res y):=zaf (x:=(a_,left,())) h
def g29:Cfg:={ P:=Tryz.prog,take:=[],keep:=[],gho:=[],ctx:=[] }
@[simp] theorem g29_s:type_of% (cfg_s (g:=g29) rfl):=cfg_s rfl
theorem w29 {a_ left} {y} (hp:laws_szIntS a_ left=some y):∃ m,callo g29 0 29 [av .shr a_,av .shr left] mem0=some (Res.res y,m):=by
 refine st0 [.tmp 4] Tryz.func29 ?_
 unfold laws_szIntS at hp
 simp [Tryz.f29]
 rcases zad hp with ⟨h_1,hp⟩|⟨h_1,hp⟩
 ·try simp at h_1
  cases hp
  simp [Goal,FnEnd,h_1]
 ·try simp at h_1
  cases hp
  simp [Goal,FnEnd,h_1]
theorem pc29:PC Tryz.prog 29 C29:=pc_of (g:=g29) (zaj [] rfl trivial) (ent Tryz.func29) fun x y h=>w29 h

def C56:List AV→Option AV:=specP (X:=TNode × Int × Unit) fun x=>laws_szNode x.1 x.2.1
theorem C56_eq {a_ left} {y} (h:laws_szNode a_ left=some y):C56 [av .shr a_,av .shr left]=some (Res.res y):=zaf (x:=(a_,left,())) h
def g56:Cfg:={ P:=Tryz.prog,take:=[],keep:=[],gho:=[],ctx:=[(29,C29)] }
@[simp] theorem g56_s:type_of% (cfg_s (g:=g56) rfl):=cfg_s rfl
theorem w56 {a_ left} {y} (hp:laws_szNode a_ left=some y):∃ m,callo g56 0 56 [av .shr a_,av .shr left] mem0=some (Res.res y,m):=by
 refine st0 [.tmp 4] Tryz.func56 ?_
 unfold laws_szNode at hp
 obtain ⟨y_1,h_2,hp⟩:=zaa hp
 have c_3:=C29_eq h_2
 simp at c_3
 simp [Tryz.f56,c_3]
 rcases zad hp with ⟨h_4,hp⟩|⟨h_4,hp⟩
 ·try simp at h_4
  cases hp
  simp [Goal,FnEnd,h_4]
 ·try simp at h_4
  obtain ⟨y_5,h_6,hp⟩:=zaa hp
  have c_7:=C29_eq h_6
  simp at c_7
  try simp [h_4,c_7]
  rcases zad hp with ⟨h_8,hp⟩|⟨h_8,hp⟩
  ·try simp at h_8
   cases hp
   simp [Goal,FnEnd,h_4,h_8]
  ·try simp at h_8
   cases hp
   simp [Goal,FnEnd,h_4,h_8]
theorem pc56:PC Tryz.prog 56 C56:=pc_of (g:=g56) (zaj _ g56_s.2.1 ⟨pc29,trivial⟩) (ent Tryz.func56) fun x y h=>w56 h

def C28:List AV→Option AV:=specP (X:=(List TNode) × Int × Unit) fun x=>laws_szNodeS x.1 x.2.1
theorem C28_eq {a_ left} {y} (h:laws_szNodeS a_ left=some y):C28 [av .shr a_,av .shr left]=some (Res.res y):=zaf (x:=(a_,left,())) h
def g28:Cfg:={ P:=Tryz.prog,take:=[],keep:=[((28,5),{ hd:=[0,1,5],bx:=[],ex:=[1],rt:=[4] })],gho:=[],ctx:=[(56,C56)] }
@[simp] theorem g28_s:type_of% (cfg_s (g:=g28) rfl):=cfg_s rfl
theorem w28 {a_ left} {y} (hp:laws_szNodeS a_ left=some y):∃ m,callo g28 0 28 [av .shr a_,av .shr left] mem0=some (Res.res y,m):=by
 refine st0 [.tmp 4] Tryz.func28 ?_
 unfold laws_szNodeS at hp
 simp [Tryz.f28]
 rcases zad hp with ⟨h_1,hp⟩|⟨h_1,hp⟩
 ·try simp at h_1
  cases hp
  simp [Goal,FnEnd,h_1]
 ·try simp at h_1
  try simp [h_1]
  obtain ⟨r_19,h_20,hp⟩:=zaa hp
  obtain ⟨I_4,I_4_⟩:=exV fun (s_2:Int × Int) (σ:St)=>(σ.env 0=uL .shr a_∧σ.env 1=uI s_2.1∧σ.env 5=uI s_2.2)∧σ.mem=mem0
  obtain ⟨X_5,X_5_⟩:=exV fun (r_19:(Int) ⊕ (Int)) (out:Out)=>Sum.elim (fun r_19=>∃ σ:St,out=.ret σ∧σ.env 4=uI r_19∧σ.mem=mem0) (fun r_19=>∃ σ:St,out=.exit 0 σ∧σ.env 1=uI r_19∧σ.mem=mem0) r_19
  refine loopP ({ hd:=[0,1,5],bx:=[],ex:=[1],rt:=[4] }) I_4 X_5 h_20 (by exact rfl) ?_ ?_ ?_
  ·rw [I_4_]
   exact ⟨by simp [zac,zab,h_1],by simp [zab,h_1]⟩
  ·intro s_2 σ_6 a_3 hI hp
   rw [I_4_] at hI
   obtain ⟨q_8,q_7⟩:=hI
   try simp [h_1,q_8,q_7]
   rcases zad hp with ⟨h_9,hp⟩|⟨h_9,hp⟩
   ·try simp at h_9
    obtain ⟨e_10,h_11,hp⟩:=zaa hp
    have b_12:=at_lo h_11
    have b_13:=at_hi h_11
    try simp at b_12 b_13
    have c_14:=seg_at' h_11 0 4 (by decide) (ds:=[.sl e_10.vars.length (encL e_10.vars),.sl e_10.reach.length (encL e_10.reach),.sc (.int .i64 e_10.shared),.sc (.int .i64 e_10.many)]) rfl
    try simp at c_14
    obtain ⟨y_15,h_16,hp⟩:=zaa hp
    have c_17:=C56_eq h_16
    simp at c_17
    try simp [h_1,q_8,q_7,h_9,b_12,b_13,c_14,c_17]
    rcases zad hp with ⟨h_18,hp⟩|⟨h_18,hp⟩
    ·try simp at h_18
     cases hp
     try simp [h_1,q_8,q_7,h_9,h_18]
     refine zao ?_
     rw [X_5_]
     exact ⟨_,rfl,by simp [zac,zab,h_1,q_8,q_7,h_9,h_18],by simp [zab,h_1,q_8,q_7,h_9,h_18]⟩
    ·try simp at h_18
     cases hp
     try simp [h_1,q_8,q_7,h_9,h_18]
     refine zag ?_
     rw [I_4_]
     exact ⟨by simp [zac,zab,h_1,q_8,q_7,h_9,h_18],by simp [zab,h_1,q_8,q_7,h_9,h_18]⟩
   ·try simp at h_9
    cases hp
    try simp [h_1,q_8,q_7,h_9]
    refine zak ?_
    rw [X_5_]
    exact ⟨_,rfl,by simp [zac,zab,h_1,q_8,q_7,h_9],by simp [zab,h_1,q_8,q_7,h_9]⟩
  ·intro out hX
   rw [X_5_] at hX
   rcases r_19 with r_19 | r_19
   ·simp only [Sum.elim_inl,Sum.elim_inr] at hX hp
    obtain ⟨σ_21,rfl,q_23,q_22⟩:=hX
    cases hp
    simp [Goal,FnEnd,h_1,q_23,q_22]
   ·simp only [Sum.elim_inl,Sum.elim_inr] at hX hp
    obtain ⟨σ_24,rfl,q_26,q_25⟩:=hX
    cases hp
    simp [Goal,FnEnd,h_1,q_26,q_25]
theorem pc28:PC Tryz.prog 28 C28:=pc_of (g:=g28) (zaj _ g28_s.2.1 ⟨pc56,trivial⟩) (ent Tryz.func28) fun x y h=>w28 h

def C8:List AV→Option AV:=specP (X:=TStructure × Int × Unit) fun x=>laws_szStructure x.1 x.2.1
theorem C8_eq {a_ left} {y} (h:laws_szStructure a_ left=some y):C8 [av .shr a_,av .shr left]=some (Res.res y):=zaf (x:=(a_,left,())) h
def g8:Cfg:={ P:=Tryz.prog,take:=[],keep:=[],gho:=[],ctx:=[(28,C28),(29,C29)] }
@[simp] theorem g8_s:type_of% (cfg_s (g:=g8) rfl):=cfg_s rfl
theorem w8 {a_ left} {y} (hp:laws_szStructure a_ left=some y):∃ m,callo g8 0 8 [av .shr a_,av .shr left] mem0=some (Res.res y,m):=by
 refine st0 [.tmp 4] Tryz.func8 ?_
 unfold laws_szStructure at hp
 obtain ⟨y_1,h_2,hp⟩:=zaa hp
 have c_3:=C28_eq h_2
 simp at c_3
 simp [Tryz.f8,c_3]
 rcases zad hp with ⟨h_4,hp⟩|⟨h_4,hp⟩
 ·try simp at h_4
  cases hp
  simp [Goal,FnEnd,h_4]
 ·try simp at h_4
  obtain ⟨y_5,h_6,hp⟩:=zaa hp
  have c_7:=C29_eq h_6
  simp at c_7
  try simp [h_4,c_7]
  rcases zad hp with ⟨h_8,hp⟩|⟨h_8,hp⟩
  ·try simp at h_8
   cases hp
   simp [Goal,FnEnd,h_4,h_8]
  ·try simp at h_8
   cases hp
   simp [Goal,FnEnd,h_4,h_8]
theorem pc8:PC Tryz.prog 8 C8:=pc_of (g:=g8) (zaj _ g8_s.2.1 ⟨pc28,pc29,trivial⟩) (ent Tryz.func8) fun x y h=>w8 h

def C7:List AV→Option AV:=specP (X:=(List TStructure) × Int × Unit) fun x=>laws_szStructureS x.1 x.2.1
theorem C7_eq {a_ left} {y} (h:laws_szStructureS a_ left=some y):C7 [av .shr a_,av .shr left]=some (Res.res y):=zaf (x:=(a_,left,())) h
def g7:Cfg:={ P:=Tryz.prog,take:=[],keep:=[((7,5),{ hd:=[0,1,5],bx:=[],ex:=[1],rt:=[4] })],gho:=[],ctx:=[(8,C8)] }
@[simp] theorem g7_s:type_of% (cfg_s (g:=g7) rfl):=cfg_s rfl
theorem w7 {a_ left} {y} (hp:laws_szStructureS a_ left=some y):∃ m,callo g7 0 7 [av .shr a_,av .shr left] mem0=some (Res.res y,m):=by
 refine st0 [.tmp 4] Tryz.func7 ?_
 unfold laws_szStructureS at hp
 simp [Tryz.f7]
 rcases zad hp with ⟨h_1,hp⟩|⟨h_1,hp⟩
 ·try simp at h_1
  cases hp
  simp [Goal,FnEnd,h_1]
 ·try simp at h_1
  try simp [h_1]
  obtain ⟨r_19,h_20,hp⟩:=zaa hp
  obtain ⟨I_4,I_4_⟩:=exV fun (s_2:Int × Int) (σ:St)=>(σ.env 0=uL .shr a_∧σ.env 1=uI s_2.1∧σ.env 5=uI s_2.2)∧σ.mem=mem0
  obtain ⟨X_5,X_5_⟩:=exV fun (r_19:(Int) ⊕ (Int)) (out:Out)=>Sum.elim (fun r_19=>∃ σ:St,out=.ret σ∧σ.env 4=uI r_19∧σ.mem=mem0) (fun r_19=>∃ σ:St,out=.exit 0 σ∧σ.env 1=uI r_19∧σ.mem=mem0) r_19
  refine loopP ({ hd:=[0,1,5],bx:=[],ex:=[1],rt:=[4] }) I_4 X_5 h_20 (by exact rfl) ?_ ?_ ?_
  ·rw [I_4_]
   exact ⟨by simp [zac,zab,h_1],by simp [zab,h_1]⟩
  ·intro s_2 σ_6 a_3 hI hp
   rw [I_4_] at hI
   obtain ⟨q_8,q_7⟩:=hI
   try simp [h_1,q_8,q_7]
   rcases zad hp with ⟨h_9,hp⟩|⟨h_9,hp⟩
   ·try simp at h_9
    obtain ⟨e_10,h_11,hp⟩:=zaa hp
    have b_12:=at_lo h_11
    have b_13:=at_hi h_11
    try simp at b_12 b_13
    have c_14:=seg_at' h_11 0 2 (by decide) (ds:=[.sl e_10.nodes.length (encL e_10.nodes),.sl e_10.next.length (encL e_10.next)]) rfl
    try simp at c_14
    obtain ⟨y_15,h_16,hp⟩:=zaa hp
    have c_17:=C8_eq h_16
    simp at c_17
    try simp [h_1,q_8,q_7,h_9,b_12,b_13,c_14,c_17]
    rcases zad hp with ⟨h_18,hp⟩|⟨h_18,hp⟩
    ·try simp at h_18
     cases hp
     try simp [h_1,q_8,q_7,h_9,h_18]
     refine zao ?_
     rw [X_5_]
     exact ⟨_,rfl,by simp [zac,zab,h_1,q_8,q_7,h_9,h_18],by simp [zab,h_1,q_8,q_7,h_9,h_18]⟩
    ·try simp at h_18
     cases hp
     try simp [h_1,q_8,q_7,h_9,h_18]
     refine zag ?_
     rw [I_4_]
     exact ⟨by simp [zac,zab,h_1,q_8,q_7,h_9,h_18],by simp [zab,h_1,q_8,q_7,h_9,h_18]⟩
   ·try simp at h_9
    cases hp
    try simp [h_1,q_8,q_7,h_9]
    refine zak ?_
    rw [X_5_]
    exact ⟨_,rfl,by simp [zac,zab,h_1,q_8,q_7,h_9],by simp [zab,h_1,q_8,q_7,h_9]⟩
  ·intro out hX
   rw [X_5_] at hX
   rcases r_19 with r_19 | r_19
   ·simp only [Sum.elim_inl,Sum.elim_inr] at hX hp
    obtain ⟨σ_21,rfl,q_23,q_22⟩:=hX
    cases hp
    simp [Goal,FnEnd,h_1,q_23,q_22]
   ·simp only [Sum.elim_inl,Sum.elim_inr] at hX hp
    obtain ⟨σ_24,rfl,q_26,q_25⟩:=hX
    cases hp
    simp [Goal,FnEnd,h_1,q_26,q_25]
theorem pc7:PC Tryz.prog 7 C7:=pc_of (g:=g7) (zaj _ g7_s.2.1 ⟨pc8,trivial⟩) (ent Tryz.func7) fun x y h=>w7 h

def C34:List AV→Option AV:=specP (X:=(List Int) × Unit) fun x=>laws_toIntS x.1
theorem C34_eq {a_} {y} (h:laws_toIntS a_=some y):C34 [av .shr a_]=some (Res.res y):=zaf (x:=(a_,())) h
def g34:Cfg:={ P:=Tryz.prog,take:=[(34,7)],keep:=[((34,3),{ hd:=[0,3,4],bx:=[],ex:=[3],rt:=[2] })],gho:=[((34,atEnd),[.frz (.sl 2 0)])],ctx:=[] }
@[simp] theorem g34_s:type_of% (cfg_s (g:=g34) rfl):=cfg_s rfl
theorem w34 {a_} {y} (hp:laws_toIntS a_=some y):∃ m,callo g34 0 34 [av .shr a_] mem0=some (Res.res y,m):=by
 refine st0 [.tmp 2] Tryz.func34 ?_
 unfold laws_toIntS at hp
 obtain ⟨_,h_1,hp⟩:=zaa hp
 have b_2:=zra h_1
 have b_3:=zqz h_1
 try simp at b_2 b_3
 have r_4:=zid (a_.length:Int).toNat (0:Int) (by rfl)
 try simp at r_4
 simp [Tryz.f34,b_2,b_3,r_4]
 obtain ⟨r_24,h_25,hp⟩:=zaa hp
 obtain ⟨I_7,I_7_⟩:=exV fun (s_5:Int × (List Int)) (σ:St)=>(σ.env 0=uL .shr a_∧σ.env 3=.one (.bs (1,7) s_5.2.length 1)∧σ.env 4=uI s_5.1∧σ.mem (1,7)=some (rowC s_5.2))∧NoBox [(1,7)] σ.mem
 obtain ⟨X_8,X_8_⟩:=exV fun (r_24:(List Int)) (out:Out)=>∃ σ:St,out=.exit 0 σ∧(σ.env 3=.one (.bs (1,7) r_24.length 1)∧σ.mem (1,7)=some (rowC r_24))∧NoBox [(1,7)] σ.mem
 refine loopP ({ hd:=[0,3,4],bx:=[],ex:=[3],rt:=[2] }) I_7 X_8 h_25 (by exact rfl) ?_ ?_ ?_
 ·rw [I_7_]
  exact ⟨by simp [zac,zab],NoBox.restrict (by intro k hk hb;simp at hk hb;simp [hk,hb])⟩
 ·intro s_5 σ_9 a_6 hI hp
  rw [I_7_] at hI
  obtain ⟨q_11,hn_10⟩:=hI
  try simp [q_11]
  rcases zad hp with ⟨h_12,hp⟩|⟨h_12,hp⟩
  ·try simp at h_12
   obtain ⟨e_13,h_14,hp⟩:=zaa hp
   have b_15:=at_lo h_14
   have b_16:=at_hi h_14
   try simp at b_15 b_16
   have c_17:=seg_at' h_14 0 1 (by decide) (ds:=[.sc (.int .i64 e_13)]) rfl
   try simp at c_17
   obtain ⟨e_18,h_19,hp⟩:=zaa hp
   have b_20:=at_lo h_19
   have b_21:=at_hi h_19
   try simp at b_20 b_21
   have c_22:=zhp h_19 0 e_13 [(cI e_13)] (by simp) rfl
   try simp at c_22
   have l_23:=zld h_19 0 (m:=1) (by decide)
   try simp at l_23
   cases hp
   try simp [q_11,h_12,b_15,b_16,c_17,b_20,b_21,c_22,l_23]
   refine zag ?_
   rw [I_7_]
   exact ⟨by simp [zac,zab,q_11,h_12,b_15,b_16,c_17,b_20,b_21,c_22,l_23],NoBox.restrict (by intro k hk hb;simp at hk hb;simp [hk,hb,q_11,h_12,b_15,b_16,c_17,b_20,b_21,c_22,l_23,hn_10 k (by simp [hk,hb])])⟩
  ·try simp at h_12
   cases hp
   try simp [q_11,h_12]
   refine zak ?_
   rw [X_8_]
   exact ⟨_,rfl,by simp [zac,zab,q_11,h_12],NoBox.restrict (by intro k hk hb;simp at hk hb;simp [hk,hb,q_11,h_12,hn_10 k (by simp [hk,hb])])⟩
 ·intro out hX
  rw [X_8_] at hX
  obtain ⟨σ_26,rfl,q_28,hn_27⟩:=hX
  cases hp
  simp [Goal,FnEnd,q_28]
theorem pc34:PC Tryz.prog 34 C34:=pc_of (g:=g34) (zaj [] rfl trivial) (ent Tryz.func34) fun x y h=>w34 h

def C65:List AV→Option AV:=specP (X:=TNode × Unit) fun x=>laws_toNode x.1
theorem C65_eq {a_} {y} (h:laws_toNode a_=some y):C65 [av .shr a_]=some (Res.res y):=zaf (x:=(a_,())) h
def g65:Cfg:={ P:=Tryz.prog,take:=[(65,18)],keep:=[],gho:=[],ctx:=[(34,C34)] }
@[simp] theorem g65_s:type_of% (cfg_s (g:=g65) rfl):=cfg_s rfl
theorem w65 {a_} {y} (hp:laws_toNode a_=some y):∃ m,callo g65 0 65 [av .shr a_] mem0=some (Res.res y,m):=by
 refine st0 [.cell 2 67] Tryz.func65 ?_
 unfold laws_toNode at hp
 obtain ⟨y_1,h_2,hp⟩:=zaa hp
 have c_3:=C34_eq h_2
 simp at c_3
 obtain ⟨y_4,h_5,hp⟩:=zaa hp
 have c_6:=C34_eq h_5
 simp at c_6
 cases hp
 simp [Tryz.f65,Goal,FnEnd,retR,rsrc,RSrc.val,nodupR,nodup,tupPart,c_3,c_6]
theorem pc65:PC Tryz.prog 65 C65:=pc_of (g:=g65) (zaj _ g65_s.2.1 ⟨pc34,trivial⟩) (ent Tryz.func65) fun x y h=>w65 h

def C33:List AV→Option AV:=specP (X:=(List TNode) × Unit) fun x=>laws_toNodeS x.1
theorem C33_eq {a_} {y} (h:laws_toNodeS a_=some y):C33 [av .shr a_]=some (Res.res y):=zaf (x:=(a_,())) h
def g33:Cfg:={ P:=Tryz.prog,take:=[(33,7)],keep:=[((33,3),{ hd:=[0,3,4],bx:=[],ex:=[3],rt:=[2] })],gho:=[((33,atEnd),[.frz (.sl 2 0)])],ctx:=[(65,C65)] }
@[simp] theorem g33_s:type_of% (cfg_s (g:=g33) rfl):=cfg_s rfl
theorem w33 {a_} {y} (hp:laws_toNodeS a_=some y):∃ m,callo g33 0 33 [av .shr a_] mem0=some (Res.res y,m):=by
 refine st0 [.tmp 2] Tryz.func33 ?_
 unfold laws_toNodeS at hp
 obtain ⟨_,h_1,hp⟩:=zaa hp
 have b_2:=zra h_1
 have b_3:=zqz h_1
 try simp at b_2 b_3
 have r_4:=zid (a_.length:Int).toNat ((⟨[],[],0,0⟩:TNode):TNode) (by rfl)
 try simp at r_4
 simp [Tryz.f33,b_2,b_3,r_4]
 obtain ⟨r_27,h_28,hp⟩:=zaa hp
 obtain ⟨I_7,I_7_⟩:=exV fun (s_5:Int × (List TNode)) (σ:St)=>(σ.env 0=uL .shr a_∧σ.env 3=.one (.bs (1,7) s_5.2.length 4)∧σ.env 4=uI s_5.1∧σ.mem (1,7)=some (rowC s_5.2))∧NoBox [(1,7)] σ.mem
 obtain ⟨X_8,X_8_⟩:=exV fun (r_27:(List TNode)) (out:Out)=>∃ σ:St,out=.exit 0 σ∧(σ.env 3=.one (.bs (1,7) r_27.length 4)∧σ.mem (1,7)=some (rowC r_27))∧NoBox [(1,7)] σ.mem
 refine loopP ({ hd:=[0,3,4],bx:=[],ex:=[3],rt:=[2] }) I_7 X_8 h_28 (by exact rfl) ?_ ?_ ?_
 ·rw [I_7_]
  exact ⟨by simp [zac,zab],NoBox.restrict (by intro k hk hb;simp at hk hb;simp [hk,hb])⟩
 ·intro s_5 σ_9 a_6 hI hp
  rw [I_7_] at hI
  obtain ⟨q_11,hn_10⟩:=hI
  try simp [q_11]
  rcases zad hp with ⟨h_12,hp⟩|⟨h_12,hp⟩
  ·try simp at h_12
   obtain ⟨e_13,h_14,hp⟩:=zaa hp
   have b_15:=at_lo h_14
   have b_16:=at_hi h_14
   try simp at b_15 b_16
   have c_17:=seg_at' h_14 0 4 (by decide) (ds:=[.sl e_13.vars.length (encL e_13.vars),.sl e_13.reach.length (encL e_13.reach),.sc (.int .i64 e_13.shared),.sc (.int .i64 e_13.many)]) rfl
   try simp at c_17
   obtain ⟨y_18,h_19,hp⟩:=zaa hp
   have c_20:=C65_eq h_19
   simp at c_20
   obtain ⟨e_21,h_22,hp⟩:=zaa hp
   have b_23:=at_lo h_22
   have b_24:=at_hi h_22
   try simp at b_23 b_24
   have c_25:=zhp h_22 0 y_18 [(cL .own y_18.vars),(cL .own y_18.reach),(cI y_18.shared),(cI y_18.many)] (by simp) rfl
   try simp at c_25
   have l_26:=zld h_22 0 (m:=4) (by decide)
   try simp at l_26
   cases hp
   try simp [q_11,h_12,b_15,b_16,c_17,c_20,b_23,b_24,c_25,l_26]
   refine zag ?_
   rw [I_7_]
   exact ⟨by simp [zac,zab,q_11,h_12,b_15,b_16,c_17,c_20,b_23,b_24,c_25,l_26],NoBox.restrict (by intro k hk hb;simp at hk hb;simp [hk,hb,q_11,h_12,b_15,b_16,c_17,c_20,b_23,b_24,c_25,l_26,hn_10 k (by simp [hk,hb])])⟩
  ·try simp at h_12
   cases hp
   try simp [q_11,h_12]
   refine zak ?_
   rw [X_8_]
   exact ⟨_,rfl,by simp [zac,zab,q_11,h_12],NoBox.restrict (by intro k hk hb;simp at hk hb;simp [hk,hb,q_11,h_12,hn_10 k (by simp [hk,hb])])⟩
 ·intro out hX
  rw [X_8_] at hX
  obtain ⟨σ_29,rfl,q_31,hn_30⟩:=hX
  cases hp
  simp [Goal,FnEnd,q_31]
theorem pc33:PC Tryz.prog 33 C33:=pc_of (g:=g33) (zaj _ g33_s.2.1 ⟨pc65,trivial⟩) (ent Tryz.func33) fun x y h=>w33 h

def C11:List AV→Option AV:=specP (X:=TStructure × Unit) fun x=>laws_toStructure x.1
theorem C11_eq {a_} {y} (h:laws_toStructure a_=some y):C11 [av .shr a_]=some (Res.res y):=zaf (x:=(a_,())) h
def g11:Cfg:={ P:=Tryz.prog,take:=[(11,12)],keep:=[],gho:=[],ctx:=[(33,C33),(34,C34)] }
@[simp] theorem g11_s:type_of% (cfg_s (g:=g11) rfl):=cfg_s rfl
theorem w11 {a_} {y} (hp:laws_toStructure a_=some y):∃ m,callo g11 0 11 [av .shr a_] mem0=some (Res.res y,m):=by
 refine st0 [.cell 2 34] Tryz.func11 ?_
 unfold laws_toStructure at hp
 obtain ⟨y_1,h_2,hp⟩:=zaa hp
 have c_3:=C33_eq h_2
 simp at c_3
 obtain ⟨y_4,h_5,hp⟩:=zaa hp
 have c_6:=C34_eq h_5
 simp at c_6
 cases hp
 simp [Tryz.f11,Goal,FnEnd,retR,rsrc,RSrc.val,nodupR,nodup,tupPart,c_3,c_6]
theorem pc11:PC Tryz.prog 11 C11:=pc_of (g:=g11) (zaj _ g11_s.2.1 ⟨pc33,pc34,trivial⟩) (ent Tryz.func11) fun x y h=>w11 h

def C10:List AV→Option AV:=specP (X:=(List TStructure) × Unit) fun x=>laws_toStructureS x.1
theorem znd {a_} {y} (h:laws_toStructureS a_=some y):C10 [av .shr a_]=some (Res.res y):=zaf (x:=(a_,())) h
def g10:Cfg:={ P:=Tryz.prog,take:=[(10,7)],keep:=[((10,3),{ hd:=[0,3,4],bx:=[],ex:=[3],rt:=[2] })],gho:=[((10,atEnd),[.frz (.sl 2 0)])],ctx:=[(11,C11)] }
@[simp] theorem g10_s:type_of% (cfg_s (g:=g10) rfl):=cfg_s rfl
theorem w10 {a_} {y} (hp:laws_toStructureS a_=some y):∃ m,callo g10 0 10 [av .shr a_] mem0=some (Res.res y,m):=by
 refine st0 [.tmp 2] Tryz.func10 ?_
 unfold laws_toStructureS at hp
 obtain ⟨_,h_1,hp⟩:=zaa hp
 have b_2:=zra h_1
 have b_3:=zqz h_1
 try simp at b_2 b_3
 have r_4:=zid (a_.length:Int).toNat ((⟨[],[]⟩:TStructure):TStructure) (by rfl)
 try simp at r_4
 simp [Tryz.f10,b_2,b_3,r_4]
 obtain ⟨r_27,h_28,hp⟩:=zaa hp
 obtain ⟨I_7,I_7_⟩:=exV fun (s_5:Int × (List TStructure)) (σ:St)=>(σ.env 0=uL .shr a_∧σ.env 3=.one (.bs (1,7) s_5.2.length 2)∧σ.env 4=uI s_5.1∧σ.mem (1,7)=some (rowC s_5.2))∧NoBox [(1,7)] σ.mem
 obtain ⟨X_8,X_8_⟩:=exV fun (r_27:(List TStructure)) (out:Out)=>∃ σ:St,out=.exit 0 σ∧(σ.env 3=.one (.bs (1,7) r_27.length 2)∧σ.mem (1,7)=some (rowC r_27))∧NoBox [(1,7)] σ.mem
 refine loopP ({ hd:=[0,3,4],bx:=[],ex:=[3],rt:=[2] }) I_7 X_8 h_28 (by exact rfl) ?_ ?_ ?_
 ·rw [I_7_]
  exact ⟨by simp [zac,zab],NoBox.restrict (by intro k hk hb;simp at hk hb;simp [hk,hb])⟩
 ·intro s_5 σ_9 a_6 hI hp
  rw [I_7_] at hI
  obtain ⟨q_11,hn_10⟩:=hI
  try simp [q_11]
  rcases zad hp with ⟨h_12,hp⟩|⟨h_12,hp⟩
  ·try simp at h_12
   obtain ⟨e_13,h_14,hp⟩:=zaa hp
   have b_15:=at_lo h_14
   have b_16:=at_hi h_14
   try simp at b_15 b_16
   have c_17:=seg_at' h_14 0 2 (by decide) (ds:=[.sl e_13.nodes.length (encL e_13.nodes),.sl e_13.next.length (encL e_13.next)]) rfl
   try simp at c_17
   obtain ⟨y_18,h_19,hp⟩:=zaa hp
   have c_20:=C11_eq h_19
   simp at c_20
   obtain ⟨e_21,h_22,hp⟩:=zaa hp
   have b_23:=at_lo h_22
   have b_24:=at_hi h_22
   try simp at b_23 b_24
   have c_25:=zhp h_22 0 y_18 [(cL .own y_18.nodes),(cL .own y_18.next)] (by simp) rfl
   try simp at c_25
   have l_26:=zld h_22 0 (m:=2) (by decide)
   try simp at l_26
   cases hp
   try simp [q_11,h_12,b_15,b_16,c_17,c_20,b_23,b_24,c_25,l_26]
   refine zag ?_
   rw [I_7_]
   exact ⟨by simp [zac,zab,q_11,h_12,b_15,b_16,c_17,c_20,b_23,b_24,c_25,l_26],NoBox.restrict (by intro k hk hb;simp at hk hb;simp [hk,hb,q_11,h_12,b_15,b_16,c_17,c_20,b_23,b_24,c_25,l_26,hn_10 k (by simp [hk,hb])])⟩
  ·try simp at h_12
   cases hp
   try simp [q_11,h_12]
   refine zak ?_
   rw [X_8_]
   exact ⟨_,rfl,by simp [zac,zab,q_11,h_12],NoBox.restrict (by intro k hk hb;simp at hk hb;simp [hk,hb,q_11,h_12,hn_10 k (by simp [hk,hb])])⟩
 ·intro out hX
  rw [X_8_] at hX
  obtain ⟨σ_29,rfl,q_31,hn_30⟩:=hX
  cases hp
  simp [Goal,FnEnd,q_31]
theorem pc10:PC Tryz.prog 10 C10:=pc_of (g:=g10) (zaj _ g10_s.2.1 ⟨pc11,trivial⟩) (ent Tryz.func10) fun x y h=>w10 h

def C58:List AV→Option AV:=specP (X:=TStructure × Unit) fun x=>zcp x.1
theorem C58_eq {s} {y} (h:zcp s=some y):C58 [av .shr s]=some (Res.res y):=zaf (x:=(s,())) h
def g58:Cfg:={ P:=Tryz.prog,take:=[],keep:=[],gho:=[],ctx:=[] }
@[simp] theorem g58_s:type_of% (cfg_s (g:=g58) rfl):=cfg_s rfl
theorem w58 {s} {y} (hp:zcp s=some y):∃ m,callo g58 0 58 [av .shr s] mem0=some (Res.res y,m):=by
 refine st0 [.tmp 2] Tryz.func58 ?_
 unfold zcp at hp
 simp [Tryz.f58]
 rcases zad hp with ⟨h_1,hp⟩|⟨h_1,hp⟩
 ·try simp at h_1
  cases hp
  simp [Goal,FnEnd,h_1]
 ·try simp at h_1
  obtain ⟨e_2,h_3,hp⟩:=zaa hp
  have b_5:=at_hi h_3
  try simp at b_5
  have c_6:=seg_at' h_3 0 1 (by decide) (ds:=[.sl e_2.vars.length (encL e_2.vars)]) rfl
  try simp at c_6
  cases hp
  simp [Goal,FnEnd,h_1,b_5,c_6]
theorem pc58:PC Tryz.prog 58 C58:=pc_of (g:=g58) (zaj [] rfl trivial) (ent Tryz.func58) fun x y h=>w58 h

def C62:List AV→Option AV:=specP (X:=Int × Int × Int × Unit) fun x=>zbb x.1 x.2.1 x.2.2.1
theorem zhy {x_ lo hi} {y} (h:zbb x_ lo hi=some y):C62 [av .shr x_,av .shr lo,av .shr hi]=some (Res.res y):=zaf (x:=(x_,lo,hi,())) h
def g62:Cfg:={ P:=Tryz.prog,take:=[],keep:=[],gho:=[],ctx:=[] }
@[simp] theorem g62_s:type_of% (cfg_s (g:=g62) rfl):=cfg_s rfl
theorem w62 {x_ lo hi} {y} (hp:zbb x_ lo hi=some y):∃ m,callo g62 0 62 [av .shr x_,av .shr lo,av .shr hi] mem0=some (Res.res y,m):=by
 refine st0 [.tmp 6] Tryz.func62 ?_
 unfold zbb at hp
 simp [Tryz.f62]
 rcases zad hp with ⟨h_1,hp⟩|⟨h_1,hp⟩
 ·try simp at h_1
  cases hp
  simp [Goal,FnEnd,h_1]
 ·try simp at h_1
  cases hp
  simp [Goal,FnEnd,h_1]
theorem pc62:PC Tryz.prog 62 C62:=pc_of (g:=g62) (zaj [] rfl trivial) (ent Tryz.func62) fun x y h=>w62 h

def C81:List AV→Option AV:=specP (X:=Int × Unit) fun x=>zbh x.1
theorem C81_eq {a_} {y} (h:zbh a_=some y):C81 [av .shr a_]=some (Res.res y):=zaf (x:=(a_,())) h
def g81:Cfg:={ P:=Tryz.prog,take:=[],keep:=[],gho:=[],ctx:=[(62,C62)] }
@[simp] theorem g81_s:type_of% (cfg_s (g:=g81) rfl):=cfg_s rfl
theorem w81 {a_} {y} (hp:zbh a_=some y):∃ m,callo g81 0 81 [av .shr a_] mem0=some (Res.res y,m):=by
 refine st0 [.tmp 2] Tryz.func81 ?_
 unfold zbh at hp
 obtain ⟨y_1,h_2,hp⟩:=zaa hp
 have c_3:=zhy h_2
 simp at c_3
 cases hp
 simp [Tryz.f81,Goal,FnEnd,c_3]
theorem pc81:PC Tryz.prog 81 C81:=pc_of (g:=g81) (zaj _ g81_s.2.1 ⟨pc62,trivial⟩) (ent Tryz.func81) fun x y h=>w81 h

def C80:List AV→Option AV:=specP (X:=(List Int) × Unit) fun x=>zcl x.1
theorem C80_eq {list} {y} (h:zcl list=some y):C80 [av .shr list]=some (Res.res y):=zaf (x:=(list,())) h
def g80:Cfg:={ P:=Tryz.prog,take:=[],keep:=[((80,2),{ hd:=[0,3],bx:=[],ex:=[],rt:=[2] })],gho:=[],ctx:=[(81,C81)] }
@[simp] theorem g80_s:type_of% (cfg_s (g:=g80) rfl):=cfg_s rfl
theorem w80 {list} {y} (hp:zcl list=some y):∃ m,callo g80 0 80 [av .shr list] mem0=some (Res.res y,m):=by
 refine st0 [.tmp 2] Tryz.func80 ?_
 unfold zcl at hp
 simp [Tryz.f80]
 obtain ⟨r_18,h_19,hp⟩:=zaa hp
 obtain ⟨I_3,I_3_⟩:=exV fun (s_1:Int) (σ:St)=>(σ.env 0=uL .shr list∧σ.env 3=uI s_1)∧σ.mem=mem0
 obtain ⟨X_4,X_4_⟩:=exV fun (r_18:(Unit) ⊕ (Unit)) (out:Out)=>Sum.elim (fun r_18=>∃ σ:St,out=.ret σ∧σ.env 2=uB false∧σ.mem=mem0) (fun r_18=>∃ σ:St,out=.exit 0 σ∧σ.mem=mem0) r_18
 refine loopP ({ hd:=[0,3],bx:=[],ex:=[],rt:=[2] }) I_3 X_4 h_19 (by exact rfl) ?_ ?_ ?_
 ·rw [I_3_]
  exact ⟨by simp [zac,zab],by simp [zab]⟩
 ·intro s_1 σ_5 a_2 hI hp
  rw [I_3_] at hI
  obtain ⟨q_7,q_6⟩:=hI
  try simp [q_7,q_6]
  rcases zad hp with ⟨h_8,hp⟩|⟨h_8,hp⟩
  ·try simp at h_8
   obtain ⟨e_9,h_10,hp⟩:=zaa hp
   have b_11:=at_lo h_10
   have b_12:=at_hi h_10
   try simp at b_11 b_12
   have c_13:=seg_at' h_10 0 1 (by decide) (ds:=[.sc (.int .i64 e_9)]) rfl
   try simp at c_13
   obtain ⟨y_14,h_15,hp⟩:=zaa hp
   have c_16:=C81_eq h_15
   simp at c_16
   try simp [q_7,q_6,h_8,b_11,b_12,c_13,c_16]
   rcases zad hp with ⟨h_17,hp⟩|⟨h_17,hp⟩
   ·try simp at h_17
    cases hp
    try simp [q_7,q_6,h_8,h_17]
    refine zag ?_
    rw [I_3_]
    exact ⟨by simp [zac,zab,q_7,q_6,h_8,h_17],by simp [zab,q_7,q_6,h_8,h_17]⟩
   ·try simp at h_17
    cases hp
    try simp [q_7,q_6,h_8,h_17]
    refine zao ?_
    rw [X_4_]
    exact ⟨_,rfl,by simp [zac,zab,q_7,q_6,h_8,h_17],by simp [zab,q_7,q_6,h_8,h_17]⟩
  ·try simp at h_8
   cases hp
   try simp [q_7,q_6,h_8]
   refine zak ?_
   rw [X_4_]
   exact ⟨_,rfl,by simp [zab,q_7,q_6,h_8]⟩
 ·intro out hX
  rw [X_4_] at hX
  rcases r_18 with r_18 | r_18
  ·simp only [Sum.elim_inl,Sum.elim_inr] at hX hp
   obtain ⟨σ_20,rfl,q_22,q_21⟩:=hX
   cases hp
   simp [Goal,FnEnd,q_22,q_21]
  ·simp only [Sum.elim_inl,Sum.elim_inr] at hX hp
   obtain ⟨σ_23,rfl,q_24⟩:=hX
   cases hp
   simp [Goal,FnEnd,q_24]
theorem pc80:PC Tryz.prog 80 C80:=pc_of (g:=g80) (zaj _ g80_s.2.1 ⟨pc81,trivial⟩) (ent Tryz.func80) fun x y h=>w80 h

def C57:List AV→Option AV:=specP (X:=Int × TStructure × Unit) fun x=>zca x.1 x.2.1
theorem C57_eq {vars s} {y} (h:zca vars s=some y):C57 [av .shr vars,av .shr s]=some (Res.res y):=zaf (x:=(vars,s,())) h
def g57:Cfg:={ P:=Tryz.prog,take:=[],keep:=[((57,3),{ hd:=[0,3,5,6],bx:=[7],ex:=[0,3,5],rt:=[4] })],gho:=[],ctx:=[(62,C62),(80,C80),(81,C81)] }
@[simp] theorem g57_s:type_of% (cfg_s (g:=g57) rfl):=cfg_s rfl
theorem w57 {vars s} {y} (hp:zca vars s=some y):∃ m,callo g57 0 57 [av .shr vars,av .shr s] mem0=some (Res.res y,m):=by
 refine st0 [.tmp 4] Tryz.func57 ?_
 unfold zca at hp
 simp [Tryz.f57]
 obtain ⟨r_33,h_34,hp⟩:=zaa hp
 obtain ⟨I_3,I_3_⟩:=exV fun (s_1:Int) (σ:St)=>(σ.env 0=uI vars∧σ.env 3=uP (1,3)∧σ.env 5=uI (s.nodes.length:Int)∧σ.env 6=uI s_1∧σ.mem (1,3)=some [cL .shr s.nodes,cL .shr s.next])∧NoBox [(1,3)] σ.mem
 obtain ⟨X_4,X_4_⟩:=exV fun (r_33:(Unit) ⊕ (Unit)) (out:Out)=>Sum.elim (fun r_33=>∃ σ:St,out=.ret σ∧(σ.env 4=uB false∧σ.mem (1,3)=some [cL .shr s.nodes,cL .shr s.next])∧NoBox [(1,3)] σ.mem) (fun r_33=>∃ σ:St,out=.exit 0 σ∧(σ.env 0=uI vars∧σ.env 3=uP (1,3)∧σ.env 5=uI (s.nodes.length:Int)∧σ.mem (1,3)=some [cL .shr s.nodes,cL .shr s.next])∧NoBox [(1,3)] σ.mem) r_33
 refine loopP ({ hd:=[0,3,5,6],bx:=[7],ex:=[0,3,5],rt:=[4] }) I_3 X_4 h_34 (by exact rfl) ?_ ?_ ?_
 ·rw [I_3_]
  exact ⟨by simp [zac,zab],NoBox.restrict (by intro k hk hb;simp at hk hb;simp [hk,hb])⟩
 ·intro s_1 σ_5 a_2 hI hp
  rw [I_3_] at hI
  obtain ⟨q_7,hn_6⟩:=hI
  try simp [q_7]
  rcases zad hp with ⟨h_8,hp⟩|⟨h_8,hp⟩
  ·try simp at h_8
   obtain ⟨e_9,h_10,hp⟩:=zaa hp
   have b_11:=at_lo h_10
   have b_12:=at_hi h_10
   try simp at b_11 b_12
   have c_13:=seg_at' h_10 0 4 (by decide) (ds:=[.sl e_9.vars.length (encL e_9.vars),.sl e_9.reach.length (encL e_9.reach),.sc (.int .i64 e_9.shared),.sc (.int .i64 e_9.many)]) rfl
   try simp at c_13
   have n_14:=hn_6 (1,7) (by simp)
   try simp [q_7,h_8,b_11,b_12,c_13,n_14]
   rcases zad hp with ⟨h_15,hp⟩|⟨h_15,hp⟩
   ·try simp at h_15
    cases hp
    try simp [q_7,h_8,h_15]
    refine zao ?_
    rw [X_4_]
    exact ⟨_,rfl,by simp [zac,zab,q_7,h_8,h_15],NoBox.restrict (by intro k hk hb;simp at hk hb;simp [hk,hb,q_7,h_8,h_15,hn_6 k (by simp [hk,hb])])⟩
   ·try simp at h_15
    try simp [q_7,h_8,h_15]
    rcases zad hp with ⟨h_16,hp⟩|⟨h_16,hp⟩
    ·try simp at h_16
     cases hp
     try simp [q_7,h_8,h_15,h_16]
     refine zao ?_
     rw [X_4_]
     exact ⟨_,rfl,by simp [zac,zab,q_7,h_8,h_15,h_16],NoBox.restrict (by intro k hk hb;simp at hk hb;simp [hk,hb,q_7,h_8,h_15,h_16,hn_6 k (by simp [hk,hb])])⟩
    ·try simp at h_16
     obtain ⟨y_17,h_18,hp⟩:=zaa hp
     have c_19:=C80_eq h_18
     simp at c_19
     try simp [q_7,h_8,h_15,h_16,c_19]
     rcases zad hp with ⟨h_20,hp⟩|⟨h_20,hp⟩
     ·try simp at h_20
      obtain ⟨y_21,h_22,hp⟩:=zaa hp
      have c_23:=C80_eq h_22
      simp at c_23
      try simp [q_7,h_8,h_15,h_16,h_20,c_23]
      rcases zad hp with ⟨h_24,hp⟩|⟨h_24,hp⟩
      ·try simp at h_24
       obtain ⟨y_25,h_26,hp⟩:=zaa hp
       have c_27:=C81_eq h_26
       simp at c_27
       try simp [q_7,h_8,h_15,h_16,h_20,h_24,c_27]
       rcases zad hp with ⟨h_28,hp⟩|⟨h_28,hp⟩
       ·try simp at h_28
        obtain ⟨y_29,h_30,hp⟩:=zaa hp
        have c_31:=zhy h_30
        simp at c_31
        try simp [q_7,h_8,h_15,h_16,h_20,h_24,h_28,c_31]
        rcases zad hp with ⟨h_32,hp⟩|⟨h_32,hp⟩
        ·try simp at h_32
         cases hp
         try simp [q_7,h_8,h_15,h_16,h_20,h_24,h_28,h_32]
         refine zag ?_
         rw [I_3_]
         exact ⟨by simp [zac,zab,q_7,h_8,h_15,h_16,h_20,h_24,h_28,h_32],NoBox.restrict (by intro k hk hb;simp at hk hb;simp [hk,hb,q_7,h_8,h_15,h_16,h_20,h_24,h_28,h_32,hn_6 k (by simp [hk,hb])])⟩
        ·try simp at h_32
         cases hp
         try simp [q_7,h_8,h_15,h_16,h_20,h_24,h_28,h_32]
         refine zao ?_
         rw [X_4_]
         exact ⟨_,rfl,by simp [zac,zab,q_7,h_8,h_15,h_16,h_20,h_24,h_28,h_32],NoBox.restrict (by intro k hk hb;simp at hk hb;simp [hk,hb,q_7,h_8,h_15,h_16,h_20,h_24,h_28,h_32,hn_6 k (by simp [hk,hb])])⟩
       ·try simp at h_28
        cases hp
        try simp [q_7,h_8,h_15,h_16,h_20,h_24,h_28]
        refine zao ?_
        rw [X_4_]
        exact ⟨_,rfl,by simp [zac,zab,q_7,h_8,h_15,h_16,h_20,h_24,h_28],NoBox.restrict (by intro k hk hb;simp at hk hb;simp [hk,hb,q_7,h_8,h_15,h_16,h_20,h_24,h_28,hn_6 k (by simp [hk,hb])])⟩
      ·try simp at h_24
       cases hp
       try simp [q_7,h_8,h_15,h_16,h_20,h_24]
       refine zao ?_
       rw [X_4_]
       exact ⟨_,rfl,by simp [zac,zab,q_7,h_8,h_15,h_16,h_20,h_24],NoBox.restrict (by intro k hk hb;simp at hk hb;simp [hk,hb,q_7,h_8,h_15,h_16,h_20,h_24,hn_6 k (by simp [hk,hb])])⟩
     ·try simp at h_20
      cases hp
      try simp [q_7,h_8,h_15,h_16,h_20]
      refine zao ?_
      rw [X_4_]
      exact ⟨_,rfl,by simp [zac,zab,q_7,h_8,h_15,h_16,h_20],NoBox.restrict (by intro k hk hb;simp at hk hb;simp [hk,hb,q_7,h_8,h_15,h_16,h_20,hn_6 k (by simp [hk,hb])])⟩
  ·try simp at h_8
   cases hp
   try simp [q_7,h_8]
   refine zak ?_
   rw [X_4_]
   exact ⟨_,rfl,by simp [zac,zab,q_7,h_8],NoBox.restrict (by intro k hk hb;simp at hk hb;simp [hk,hb,q_7,h_8,hn_6 k (by simp [hk,hb])])⟩
 ·intro out hX
  rw [X_4_] at hX
  rcases r_33 with r_33 | r_33
  ·simp only [Sum.elim_inl,Sum.elim_inr] at hX hp
   obtain ⟨σ_35,rfl,q_37,hn_36⟩:=hX
   cases hp
   simp [Goal,FnEnd,q_37]
  ·simp only [Sum.elim_inl,Sum.elim_inr] at hX hp
   obtain ⟨σ_38,rfl,q_40,hn_39⟩:=hX
   obtain ⟨y_41,h_42,hp⟩:=zaa hp
   have c_43:=zhy h_42
   simp at c_43
   try simp [q_40,c_43]
   rcases zad hp with ⟨h_44,hp⟩|⟨h_44,hp⟩
   ·try simp at h_44
    try simp [q_40,h_44]
    rcases zad hp with ⟨h_45,hp⟩|⟨h_45,hp⟩
    ·try simp at h_45
     try simp [q_40,h_44,h_45]
     rcases zad hp with ⟨h_46,hp⟩|⟨h_46,hp⟩
     ·try simp at h_46
      obtain ⟨y_47,h_48,hp⟩:=zaa hp
      have c_49:=C80_eq h_48
      simp at c_49
      cases hp
      simp [Goal,FnEnd,q_40,h_44,h_45,h_46,c_49]
     ·try simp at h_46
      cases hp
      simp [Goal,FnEnd,q_40,h_44,h_45,h_46]
    ·try simp at h_45
     cases hp
     simp [Goal,FnEnd,q_40,h_44,h_45]
   ·try simp at h_44
    cases hp
    simp [Goal,FnEnd,q_40,h_44]
theorem pc57:PC Tryz.prog 57 C57:=pc_of (g:=g57) (zaj _ g57_s.2.1 ⟨pc62,pc80,pc81,trivial⟩) (ent Tryz.func57) fun x y h=>w57 h

def C64:List AV→Option AV:=specP (X:=TNode × Unit) fun x=>zbz x.1
theorem C64_eq {x_} {y} (h:zbz x_=some y):C64 [av .shr x_]=some (Res.res y):=zaf (x:=(x_,())) h
def g64:Cfg:={ P:=Tryz.prog,take:=[],keep:=[],gho:=[],ctx:=[] }
@[simp] theorem g64_s:type_of% (cfg_s (g:=g64) rfl):=cfg_s rfl
theorem w64 {x_} {y} (hp:zbz x_=some y):∃ m,callo g64 0 64 [av .shr x_] mem0=some (Res.res y,m):=by
 refine st0 [.cell 2 67] Tryz.func64 ?_
 unfold zbz at hp
 obtain ⟨_,h_1,hp⟩:=zaa hp
 have b_2:=zbw h_1
 try simp at b_2
 obtain ⟨_,h_3,hp⟩:=zaa hp
 have b_4:=zbw h_3
 try simp at b_4
 cases hp
 simp [Tryz.f64,Goal,FnEnd,retR,rsrc,RSrc.val,nodupR,nodup,tupPart,b_2,b_4]
theorem pc64:PC Tryz.prog 64 C64:=pc_of (g:=g64) (zaj [] rfl trivial) (ent Tryz.func64) fun x y h=>w64 h

def C32:List AV→Option AV:=specP (X:=TStructure × Unit) fun x=>zbg x.1
theorem zpn {s} {y} (h:zbg s=some y):C32 [av .shr s]=some (Res.res y):=zaf (x:=(s,())) h
def g32:Cfg:={ P:=Tryz.prog,take:=[(32,18),(32,28)],keep:=[((32,3),{ hd:=[1,2,3,4],bx:=[],ex:=[2,3],rt:=[2] })],gho:=[],ctx:=[(64,C64)] }
@[simp] theorem g32_s:type_of% (cfg_s (g:=g32) rfl):=cfg_s rfl
theorem w32 {s} {y} (hp:zbg s=some y):∃ m,callo g32 0 32 [av .shr s] mem0=some (Res.res y,m):=by
 refine st0 [.cell 2 34] Tryz.func32 ?_
 unfold zbg at hp
 obtain ⟨_,h_1,hp⟩:=zaa hp
 have b_2:=zbw h_1
 try simp at b_2
 simp [Tryz.f32,b_2]
 obtain ⟨r_21,h_22,hp⟩:=zaa hp
 obtain ⟨I_5,I_5_⟩:=exV fun (s_3:Int × (List TNode)) (σ:St)=>(σ.env 1=uP (1,1)∧σ.env 2=uP (1,2)∧σ.env 3=uP (1,3)∧σ.env 4=uI s_3.1∧σ.mem (1,1)=some [cL .shr s.nodes,cL .shr s.next]∧σ.mem (1,2)=some [.l .own 0 [],.l .own 0 []]∧σ.mem (1,3)=some [cL .own s_3.2,cL .own s.next])∧NoBox [(1,1),(1,2),(1,3)] σ.mem
 obtain ⟨X_6,X_6_⟩:=exV fun (r_21:(List TNode)) (out:Out)=>∃ σ:St,out=.exit 0 σ∧(σ.env 2=uP (1,2)∧σ.env 3=uP (1,3)∧σ.mem (1,1)=some [cL .shr s.nodes,cL .shr s.next]∧σ.mem (1,2)=some [.l .own 0 [],.l .own 0 []]∧σ.mem (1,3)=some [cL .own r_21,cL .own s.next])∧NoBox [(1,1),(1,2),(1,3)] σ.mem
 refine loopP ({ hd:=[1,2,3,4],bx:=[],ex:=[2,3],rt:=[2] }) I_5 X_6 h_22 (by exact rfl) ?_ ?_ ?_
 ·rw [I_5_]
  exact ⟨by simp [zac,zab],NoBox.restrict (by intro k hk hb;simp at hk hb;simp [hk,hb])⟩
 ·intro s_3 σ_7 a_4 hI hp
  rw [I_5_] at hI
  obtain ⟨q_9,hn_8⟩:=hI
  try simp [q_9]
  rcases zad hp with ⟨h_10,hp⟩|⟨h_10,hp⟩
  ·try simp at h_10
   obtain ⟨e_11,h_12,hp⟩:=zaa hp
   have b_13:=at_lo h_12
   have b_14:=at_hi h_12
   try simp at b_13 b_14
   have c_15:=seg_at' h_12 0 4 (by decide) (ds:=[.sl e_11.vars.length (encL e_11.vars),.sl e_11.reach.length (encL e_11.reach),.sc (.int .i64 e_11.shared),.sc (.int .i64 e_11.many)]) rfl
   try simp at c_15
   obtain ⟨y_16,h_17,hp⟩:=zaa hp
   have c_18:=C64_eq h_17
   simp at c_18
   obtain ⟨_,h_19,hp⟩:=zaa hp
   have b_20:=zbw h_19
   try simp at b_20
   cases hp
   try simp [q_9,h_10,b_13,b_14,c_15,c_18,b_20]
   refine zag ?_
   rw [I_5_]
   exact ⟨by simp [zac,zab,q_9,h_10,b_13,b_14,c_15,c_18,b_20],NoBox.restrict (by intro k hk hb;simp at hk hb;simp [hk,hb,q_9,h_10,b_13,b_14,c_15,c_18,b_20,hn_8 k (by simp [hk,hb])])⟩
  ·try simp at h_10
   cases hp
   try simp [q_9,h_10]
   refine zak ?_
   rw [X_6_]
   exact ⟨_,rfl,by simp [zac,zab,q_9,h_10],NoBox.restrict (by intro k hk hb;simp at hk hb;simp [hk,hb,q_9,h_10,hn_8 k (by simp [hk,hb])])⟩
 ·intro out hX
  rw [X_6_] at hX
  obtain ⟨σ_23,rfl,q_25,hn_24⟩:=hX
  cases hp
  simp [Goal,FnEnd,retR,rsrc,RSrc.val,nodupR,nodup,tupPart,q_25]
theorem pc32:PC Tryz.prog 32 C32:=pc_of (g:=g32) (zaj _ g32_s.2.1 ⟨pc64,trivial⟩) (ent Tryz.func32) fun x y h=>w32 h

def C117:List AV→Option AV:=specP (X:=TStructure × Unit) fun x=>zbe x.1
theorem C117_eq {s} {y} (h:zbe s=some y):C117 [av .shr s]=some (Res.res y):=zaf (x:=(s,())) h
def g117:Cfg:={ P:=Tryz.prog,take:=[],keep:=[],gho:=[],ctx:=[(58,C58)] }
@[simp] theorem g117_s:type_of% (cfg_s (g:=g117) rfl):=cfg_s rfl
theorem w117 {s} {y} (hp:zbe s=some y):∃ m,callo g117 0 117 [av .shr s] mem0=some (Res.res y,m):=by
 refine st0 [.tmp 2] Tryz.func117 ?_
 unfold zbe at hp
 simp [Tryz.f117]
 rcases zad hp with ⟨h_1,hp⟩|⟨h_1,hp⟩
 ·try simp at h_1
  cases hp
  simp [Goal,FnEnd,h_1]
 ·try simp at h_1
  obtain ⟨y_2,h_3,hp⟩:=zaa hp
  have c_4:=C58_eq h_3
  simp at c_4
  cases hp
  simp [Goal,FnEnd,h_1,c_4]
theorem pc117:PC Tryz.prog 117 C117:=pc_of (g:=g117) (zaj _ g117_s.2.1 ⟨pc58,trivial⟩) (ent Tryz.func117) fun x y h=>w117 h

def C147:List AV→Option AV:=specP (X:=(List Int) × Int × Unit) fun x=>zfj x.1 x.2.1
theorem C147_eq {list k_} {y} (h:zfj list k_=some y):C147 [av .shr list,av .shr k_]=some (Res.res y):=zaf (x:=(list,k_,())) h
def g147:Cfg:={ P:=Tryz.prog,take:=[],keep:=[],gho:=[],ctx:=[(62,C62)] }
@[simp] theorem g147_s:type_of% (cfg_s (g:=g147) rfl):=cfg_s rfl
theorem w147 {list k_} {y} (hp:zfj list k_=some y):∃ m,callo g147 0 147 [av .shr list,av .shr k_] mem0=some (Res.res y,m):=by
 refine st0 [.tmp 4] Tryz.func147 ?_
 unfold zfj at hp
 obtain ⟨y_1,h_2,hp⟩:=zaa hp
 have c_3:=zhy h_2
 simp at c_3
 simp [Tryz.f147,c_3]
 rcases zad hp with ⟨h_4,hp⟩|⟨h_4,hp⟩
 ·try simp at h_4
  obtain ⟨e_5,h_6,hp⟩:=zaa hp
  have b_7:=at_lo h_6
  have b_8:=at_hi h_6
  try simp at b_7 b_8
  have c_9:=seg_at' h_6 0 1 (by decide) (ds:=[.sc (.int .i64 e_5)]) rfl
  try simp at c_9
  cases hp
  simp [Goal,FnEnd,h_4,b_7,b_8,c_9]
 ·try simp at h_4
  cases hp
  simp [Goal,FnEnd,h_4]
theorem pc147:PC Tryz.prog 147 C147:=pc_of (g:=g147) (zaj _ g147_s.2.1 ⟨pc62,trivial⟩) (ent Tryz.func147) fun x y h=>w147 h

def C119:List AV→Option AV:=specP (X:=TStructure × Int × Int × Unit) fun x=>zcs x.1 x.2.1 x.2.2.1
theorem C119_eq {s k_ i} {y} (h:zcs s k_ i=some y):C119 [av .shr s,av .shr k_,av .shr i]=some (Res.res y):=zaf (x:=(s,k_,i,())) h
def g119:Cfg:={ P:=Tryz.prog,take:=[],keep:=[],gho:=[],ctx:=[(58,C58),(62,C62),(147,C147)] }
@[simp] theorem g119_s:type_of% (cfg_s (g:=g119) rfl):=cfg_s rfl
theorem w119 {s k_ i} {y} (hp:zcs s k_ i=some y):∃ m,callo g119 0 119 [av .shr s,av .shr k_,av .shr i] mem0=some (Res.res y,m):=by
 refine st0 [.tmp 6] Tryz.func119 ?_
 unfold zcs at hp
 obtain ⟨y_1,h_2,hp⟩:=zaa hp
 have c_3:=C58_eq h_2
 simp at c_3
 obtain ⟨y_4,h_5,hp⟩:=zaa hp
 have c_6:=zhy h_5
 simp at c_6
 simp [Tryz.f119,c_3,c_6]
 rcases zad hp with ⟨h_7,hp⟩|⟨h_7,hp⟩
 ·try simp at h_7
  obtain ⟨y_8,h_9,hp⟩:=zaa hp
  have c_10:=zhy h_9
  simp at c_10
  try simp [h_7,c_10]
  rcases zad hp with ⟨h_11,hp⟩|⟨h_11,hp⟩
  ·try simp at h_11
   obtain ⟨e_12,h_13,hp⟩:=zaa hp
   have b_14:=at_lo h_13
   have b_15:=at_hi h_13
   try simp at b_14 b_15
   have c_16:=seg_at' h_13 0 1 (by decide) (ds:=[.sl e_12.vars.length (encL e_12.vars)]) rfl
   try simp at c_16
   obtain ⟨y_17,h_18,hp⟩:=zaa hp
   have c_19:=C147_eq h_18
   simp at c_19
   cases hp
   simp [Goal,FnEnd,h_7,h_11,b_14,b_15,c_16,c_19]
  ·try simp at h_11
   obtain ⟨y_20,h_21,hp⟩:=zaa hp
   have c_22:=zhy h_21
   simp at c_22
   try simp [h_7,h_11,c_22]
   rcases zad hp with ⟨h_23,hp⟩|⟨h_23,hp⟩
   ·try simp at h_23
    obtain ⟨e_24,h_25,hp⟩:=zaa hp
    have b_26:=at_lo h_25
    have b_27:=at_hi h_25
    try simp at b_26 b_27
    have c_28:=seg_at' h_25 1 1 (by decide) (ds:=[.sl e_24.reach.length (encL e_24.reach)]) rfl
    try simp at c_28
    obtain ⟨y_29,h_30,hp⟩:=zaa hp
    have c_31:=C147_eq h_30
    simp at c_31
    cases hp
    simp [Goal,FnEnd,h_7,h_11,h_23,b_26,b_27,c_28,c_31]
   ·try simp at h_23
    try simp [h_7,h_11,h_23]
    rcases zad hp with ⟨h_32,hp⟩|⟨h_32,hp⟩
    ·try simp at h_32
     obtain ⟨e_33,h_34,hp⟩:=zaa hp
     have b_35:=at_lo h_34
     have b_36:=at_hi h_34
     try simp at b_35 b_36
     have c_37:=seg_at' h_34 2 1 (by decide) (ds:=[.sc (.int .i64 e_33.shared)]) rfl
     try simp at c_37
     cases hp
     simp [Goal,FnEnd,h_7,h_11,h_23,h_32,b_35,b_36,c_37]
    ·try simp at h_32
     cases hp
     simp [Goal,FnEnd,h_7,h_11,h_23,h_32]
 ·try simp at h_7
  cases hp
  simp [Goal,FnEnd,h_7]
theorem pc119:PC Tryz.prog 119 C119:=pc_of (g:=g119) (zaj _ g119_s.2.1 ⟨pc58,pc62,pc147,trivial⟩) (ent Tryz.func119) fun x y h=>w119 h

def C118:List AV→Option AV:=specP (X:=Int × Unit) fun x=>zbu x.1
theorem C118_eq {a_} {y} (h:zbu a_=some y):C118 [av .shr a_]=some (Res.res y):=zaf (x:=(a_,())) h
def g118:Cfg:={ P:=Tryz.prog,take:=[],keep:=[],gho:=[],ctx:=[(81,C81)] }
@[simp] theorem g118_s:type_of% (cfg_s (g:=g118) rfl):=cfg_s rfl
theorem w118 {a_} {y} (hp:zbu a_=some y):∃ m,callo g118 0 118 [av .shr a_] mem0=some (Res.res y,m):=by
 refine st0 [.tmp 2] Tryz.func118 ?_
 unfold zbu at hp
 obtain ⟨y_1,h_2,hp⟩:=zaa hp
 have c_3:=C81_eq h_2
 simp at c_3
 simp [Tryz.f118,c_3]
 rcases zad hp with ⟨h_4,hp⟩|⟨h_4,hp⟩
 ·try simp at h_4
  obtain ⟨z_5,h_6,hp⟩:=zaa hp
  have c_7:=sl_str Tryz.underlying9 h_6
  cases hp
  simp [Goal,FnEnd,h_4,c_7]
 ·try simp at h_4
  cases hp
  simp [Goal,FnEnd,h_4]
theorem pc118:PC Tryz.prog 118 C118:=pc_of (g:=g118) (zaj _ g118_s.2.1 ⟨pc81,trivial⟩) (ent Tryz.func118) fun x y h=>w118 h

def C82:List AV→Option AV:=specP (X:=TStructure × Int × Unit) fun x=>zdw x.1 x.2.1
theorem C82_eq {s i} {y} (h:zdw s i=some y):C82 [av .shr s,av .shr i]=some (Res.res y):=zaf (x:=(s,i,())) h
def g82:Cfg:={ P:=Tryz.prog,take:=[],keep:=[((82,6),{ hd:=[1,2,5,6,7],bx:=[],ex:=[5],rt:=[4] })],gho:=[],ctx:=[(62,C62),(117,C117),(118,C118),(119,C119)] }
@[simp] theorem g82_s:type_of% (cfg_s (g:=g82) rfl):=cfg_s rfl
theorem w82 {s i} {y} (hp:zdw s i=some y):∃ m,callo g82 0 82 [av .shr s,av .shr i] mem0=some (Res.res y,m):=by
 refine st0 [.tmp 4] Tryz.func82 ?_
 unfold zdw at hp
 obtain ⟨y_1,h_2,hp⟩:=zaa hp
 have c_3:=zhy h_2
 simp at c_3
 simp [Tryz.f82,c_3]
 rcases zad hp with ⟨h_4,hp⟩|⟨h_4,hp⟩
 ·try simp at h_4
  obtain ⟨y_5,h_6,hp⟩:=zaa hp
  have c_7:=C117_eq h_6
  simp at c_7
  try simp [h_4,c_7]
  obtain ⟨r_25,h_26,hp⟩:=zaa hp
  obtain ⟨I_10,I_10_⟩:=exV fun (s_8:ByteArray × Int) (σ:St)=>(σ.env 1=uI i∧σ.env 2=uP (1,2)∧σ.env 5=.one (.s (.string s_8.1))∧σ.env 6=uI y_5∧σ.env 7=uI s_8.2∧σ.mem (1,2)=some [cL .shr s.nodes,cL .shr s.next])∧NoBox [(1,2)] σ.mem
  obtain ⟨X_11,X_11_⟩:=exV fun (r_25:ByteArray) (out:Out)=>∃ σ:St,out=.exit 0 σ∧(σ.env 5=.one (.s (.string r_25))∧σ.mem (1,2)=some [cL .shr s.nodes,cL .shr s.next])∧NoBox [(1,2)] σ.mem
  refine loopP ({ hd:=[1,2,5,6,7],bx:=[],ex:=[5],rt:=[4] }) I_10 X_11 h_26 (by exact rfl) ?_ ?_ ?_
  ·rw [I_10_]
   exact ⟨by simp [zac,zab,h_4],NoBox.restrict (by intro k hk hb;simp at hk hb;simp [hk,hb,h_4])⟩
  ·intro s_8 σ_12 a_9 hI hp
   rw [I_10_] at hI
   obtain ⟨q_14,hn_13⟩:=hI
   try simp [h_4,q_14]
   rcases zad hp with ⟨h_15,hp⟩|⟨h_15,hp⟩
   ·try simp at h_15
    obtain ⟨y_16,h_17,hp⟩:=zaa hp
    have c_18:=C119_eq h_17
    simp at c_18
    obtain ⟨y_19,h_20,hp⟩:=zaa hp
    have c_21:=C118_eq h_20
    simp at c_21
    obtain ⟨z_22,h_23,hp⟩:=zaa hp
    have c_24:=zdd (P:=Tryz.prog) (t:=9) h_23
    cases hp
    try simp [h_4,q_14,h_15,c_18,c_21,c_24]
    refine zag ?_
    rw [I_10_]
    exact ⟨by simp [zac,zab,h_4,q_14,h_15,c_18,c_21,c_24],NoBox.restrict (by intro k hk hb;simp at hk hb;simp [hk,hb,h_4,q_14,h_15,c_18,c_21,c_24,hn_13 k (by simp [hk,hb])])⟩
   ·try simp at h_15
    cases hp
    try simp [h_4,q_14,h_15]
    refine zak ?_
    rw [X_11_]
    exact ⟨_,rfl,by simp [zac,zab,h_4,q_14,h_15],NoBox.restrict (by intro k hk hb;simp at hk hb;simp [hk,hb,h_4,q_14,h_15,hn_13 k (by simp [hk,hb])])⟩
  ·intro out hX
   rw [X_11_] at hX
   obtain ⟨σ_27,rfl,q_29,hn_28⟩:=hX
   cases hp
   simp [Goal,FnEnd,h_4,q_29]
 ·try simp at h_4
  cases hp
  simp [Goal,FnEnd,h_4]
theorem pc82:PC Tryz.prog 82 C82:=pc_of (g:=g82) (zaj _ g82_s.2.1 ⟨pc62,pc117,pc118,pc119,trivial⟩) (ent Tryz.func82) fun x y h=>w82 h

def C59:List AV→Option AV:=specS (X:=TStructure × Unit) fun x=>zex x.1
theorem C59_eq {s} {y} (h:zex s=some y):C59 [av .shr s]=some (av .shr y):=specS_eq (x:=(s,())) h
theorem pc59:PC Tryz.prog 59 C59:=pc_l17 pc82 fun s i x h=>C82_eq h

def C60:List AV→Option AV:=specP (X:=TStructure × (List Int) × Unit) fun x=>zdt x.1 x.2.1
theorem C60_eq {s group} {y} (h:zdt s group=some y):C60 [av .shr s,av .shr group]=some (Res.res y):=zaf (x:=(s,group,())) h
def g60:Cfg:={ P:=Tryz.prog,take:=[(60,37)],keep:=[((60,3),{ hd:=[1,2,4,5,6],bx:=[],ex:=[4,5],rt:=[4] })],gho:=[],ctx:=[(64,C64)] }
@[simp] theorem g60_s:type_of% (cfg_s (g:=g60) rfl):=cfg_s rfl
theorem w60 {s group} {y} (hp:zdt s group=some y):∃ m,callo g60 0 60 [av .shr s,av .shr group] mem0=some (Res.res y,m):=by
 refine st0 [.cell 4 67] Tryz.func60 ?_
 unfold zdt at hp
 obtain ⟨e_1,h_2,hp⟩:=zaa hp
 have b_4:=at_hi h_2
 try simp at b_4
 have c_5:=seg_at' h_2 0 1 (by decide) (ds:=[.sc (.int .i64 e_1)]) rfl
 try simp at c_5
 obtain ⟨e_6,h_7,hp⟩:=zaa hp
 have b_8:=at_lo h_7
 have b_9:=at_hi h_7
 try simp at b_8 b_9
 have c_10:=seg_at' h_7 0 4 (by decide) (ds:=[.sl e_6.vars.length (encL e_6.vars),.sl e_6.reach.length (encL e_6.reach),.sc (.int .i64 e_6.shared),.sc (.int .i64 e_6.many)]) rfl
 try simp at c_10
 obtain ⟨y_11,h_12,hp⟩:=zaa hp
 have c_13:=C64_eq h_12
 simp at c_13
 simp [Tryz.f60,b_4,c_5,b_8,b_9,c_10,c_13]
 obtain ⟨r_34,h_35,hp⟩:=zaa hp
 obtain ⟨I_16,I_16_⟩:=exV fun (s_14:Int × Int) (σ:St)=>(σ.env 1=uL .shr group∧σ.env 2=uP (1,2)∧σ.env 4=uP (1,4)∧σ.env 5=uP (1,5)∧σ.env 6=uI s_14.1∧σ.mem (1,2)=some [cL .shr s.nodes,cL .shr s.next]∧σ.mem (1,4)=some [.l .own 0 [],.l .own 0 [],cI 0,cI 0]∧σ.mem (1,5)=some [cL .own y_11.vars,cL .own y_11.reach,cI y_11.shared,cI s_14.2])∧NoBox [(1,2),(1,4),(1,5)] σ.mem
 obtain ⟨X_17,X_17_⟩:=exV fun (r_34:Int) (out:Out)=>∃ σ:St,out=.exit 0 σ∧(σ.env 4=uP (1,4)∧σ.env 5=uP (1,5)∧σ.mem (1,2)=some [cL .shr s.nodes,cL .shr s.next]∧σ.mem (1,4)=some [.l .own 0 [],.l .own 0 [],cI 0,cI 0]∧σ.mem (1,5)=some [cL .own y_11.vars,cL .own y_11.reach,cI y_11.shared,cI r_34])∧NoBox [(1,2),(1,4),(1,5)] σ.mem
 refine loopP ({ hd:=[1,2,4,5,6],bx:=[],ex:=[4,5],rt:=[4] }) I_16 X_17 h_35 (by exact rfl) ?_ ?_ ?_
 ·rw [I_16_]
  exact ⟨by simp [zac,zab],NoBox.restrict (by intro k hk hb;simp at hk hb;simp [hk,hb])⟩
 ·intro s_14 σ_18 a_15 hI hp
  rw [I_16_] at hI
  obtain ⟨q_20,hn_19⟩:=hI
  try simp [q_20]
  rcases zad hp with ⟨h_21,hp⟩|⟨h_21,hp⟩
  ·try simp at h_21
   try simp [q_20,h_21]
   rcases zad hp with ⟨h_22,hp⟩|⟨h_22,hp⟩
   ·try simp at h_22
    cases hp
    try simp [q_20,h_21,h_22]
    refine zag ?_
    rw [I_16_]
    exact ⟨by simp [zac,zab,q_20,h_21,h_22],NoBox.restrict (by intro k hk hb;simp at hk hb;simp [hk,hb,q_20,h_21,h_22,hn_19 k (by simp [hk,hb])])⟩
   ·try simp at h_22
    obtain ⟨e_23,h_24,hp⟩:=zaa hp
    have b_25:=at_lo h_24
    have b_26:=at_hi h_24
    try simp at b_25 b_26
    have c_27:=seg_at' h_24 0 1 (by decide) (ds:=[.sc (.int .i64 e_23)]) rfl
    try simp at c_27
    obtain ⟨e_28,h_29,hp⟩:=zaa hp
    have b_30:=at_lo h_29
    have b_31:=at_hi h_29
    try simp at b_30 b_31
    have c_32:=seg_at' h_29 3 1 (by decide) (ds:=[.sc (.int .i64 e_28.many)]) rfl
    try simp at c_32
    try simp [q_20,h_21,h_22,b_25,b_26,c_27,b_30,b_31,c_32]
    rcases zad hp with ⟨h_33,hp⟩|⟨h_33,hp⟩
    ·try simp at h_33
     cases hp
     try simp [q_20,h_21,h_22,h_33]
     refine zag ?_
     rw [I_16_]
     exact ⟨by simp [zac,zab,q_20,h_21,h_22,h_33],NoBox.restrict (by intro k hk hb;simp at hk hb;simp [hk,hb,q_20,h_21,h_22,h_33,hn_19 k (by simp [hk,hb])])⟩
    ·try simp at h_33
     cases hp
     try simp [q_20,h_21,h_22,h_33]
     refine zag ?_
     rw [I_16_]
     exact ⟨by simp [zac,zab,q_20,h_21,h_22,h_33],NoBox.restrict (by intro k hk hb;simp at hk hb;simp [hk,hb,q_20,h_21,h_22,h_33,hn_19 k (by simp [hk,hb])])⟩
  ·try simp at h_21
   cases hp
   try simp [q_20,h_21]
   refine zak ?_
   rw [X_17_]
   exact ⟨_,rfl,by simp [zac,zab,q_20,h_21],NoBox.restrict (by intro k hk hb;simp at hk hb;simp [hk,hb,q_20,h_21,hn_19 k (by simp [hk,hb])])⟩
 ·intro out hX
  rw [X_17_] at hX
  obtain ⟨σ_36,rfl,q_38,hn_37⟩:=hX
  cases hp
  simp [Goal,FnEnd,retR,rsrc,RSrc.val,nodupR,nodup,tupPart,q_38]
theorem pc60:PC Tryz.prog 60 C60:=pc_of (g:=g60) (zaj _ g60_s.2.1 ⟨pc64,trivial⟩) (ent Tryz.func60) fun x y h=>w60 h

def C83:List AV→Option AV:=specP (X:=TStructure × Int × Int × Unit) fun x=>zcg x.1 x.2.1 x.2.2.1
theorem C83_eq {s i j} {y} (h:zcg s i j=some y):C83 [av .shr s,av .shr i,av .shr j]=some (Res.res y):=zaf (x:=(s,i,j,())) h
def g83:Cfg:={ P:=Tryz.prog,take:=[],keep:=[],gho:=[],ctx:=[(62,C62)] }
@[simp] theorem g83_s:type_of% (cfg_s (g:=g83) rfl):=cfg_s rfl
theorem w83 {s i j} {y} (hp:zcg s i j=some y):∃ m,callo g83 0 83 [av .shr s,av .shr i,av .shr j] mem0=some (Res.res y,m):=by
 refine st0 [.tmp 6] Tryz.func83 ?_
 unfold zcg at hp
 obtain ⟨y_1,h_2,hp⟩:=zaa hp
 have c_3:=zhy h_2
 simp at c_3
 simp [Tryz.f83,c_3]
 rcases zad hp with ⟨h_4,hp⟩|⟨h_4,hp⟩
 ·try simp at h_4
  obtain ⟨y_5,h_6,hp⟩:=zaa hp
  have c_7:=zhy h_6
  simp at c_7
  try simp [h_4,c_7]
  rcases zad hp with ⟨h_8,hp⟩|⟨h_8,hp⟩
  ·try simp at h_8
   try simp [h_4,h_8]
   rcases zad hp with ⟨h_9,hp⟩|⟨h_9,hp⟩
   ·try simp at h_9
    cases hp
    simp [Goal,FnEnd,h_4,h_8,h_9]
   ·try simp at h_9
    obtain ⟨e_10,h_11,hp⟩:=zaa hp
    have b_12:=at_lo h_11
    have b_13:=at_hi h_11
    try simp at b_12 b_13
    have c_14:=seg_at' h_11 0 1 (by decide) (ds:=[.sc (.int .i64 e_10)]) rfl
    try simp at c_14
    cases hp
    simp [Goal,FnEnd,h_4,h_8,h_9,b_12,b_13,c_14]
  ·try simp at h_8
   cases hp
   simp [Goal,FnEnd,h_4,h_8]
 ·try simp at h_4
  cases hp
  simp [Goal,FnEnd,h_4]
theorem pc83:PC Tryz.prog 83 C83:=pc_of (g:=g83) (zaj _ g83_s.2.1 ⟨pc62,trivial⟩) (ent Tryz.func83) fun x y h=>w83 h

def C84:List AV→Option AV:=specP (X:=Int × Int × Unit) fun x=>zeg x.1 x.2.1
theorem C84_eq {a_ b_} {y} (h:zeg a_ b_=some y):C84 [av .shr a_,av .shr b_]=some (Res.res y):=zaf (x:=(a_,b_,())) h
def g84:Cfg:={ P:=Tryz.prog,take:=[],keep:=[],gho:=[],ctx:=[(81,C81)] }
@[simp] theorem g84_s:type_of% (cfg_s (g:=g84) rfl):=cfg_s rfl
theorem w84 {a_ b_} {y} (hp:zeg a_ b_=some y):∃ m,callo g84 0 84 [av .shr a_,av .shr b_] mem0=some (Res.res y,m):=by
 refine st0 [.tmp 4] Tryz.func84 ?_
 unfold zeg at hp
 simp [Tryz.f84]
 rcases zad hp with ⟨h_1,hp⟩|⟨h_1,hp⟩
 ·try simp at h_1
  cases hp
  simp [Goal,FnEnd,h_1]
 ·try simp at h_1
  obtain ⟨y_2,h_3,hp⟩:=zaa hp
  have c_4:=C81_eq h_3
  simp at c_4
  try simp [h_1,c_4]
  rcases zad hp with ⟨h_5,hp⟩|⟨h_5,hp⟩
  ·try simp at h_5
   cases hp
   simp [Goal,FnEnd,h_1,h_5]
  ·try simp at h_5
   cases hp
   simp [Goal,FnEnd,h_1,h_5]
theorem pc84:PC Tryz.prog 84 C84:=pc_of (g:=g84) (zaj _ g84_s.2.1 ⟨pc81,trivial⟩) (ent Tryz.func84) fun x y h=>w84 h

def C61:List AV→Option AV:=specP (X:=TStructure × (List Int) × (List Int) × Unit) fun x=>zdu x.1 x.2.1 x.2.2.1
theorem C61_eq {s a_ b_} {y} (h:zdu s a_ b_=some y):C61 [av .shr s,av .shr a_,av .shr b_]=some (Res.res y):=zaf (x:=(s,a_,b_,())) h
def g61:Cfg:={ P:=Tryz.prog,take:=[],keep:=[((61,3),{ hd:=[1,2,3,7,8],bx:=[],ex:=[7],rt:=[6] }),((61,6),{ hd:=[1,2,3,7,8,9],bx:=[],ex:=[1,2,3,7,8],rt:=[6] })],gho:=[],ctx:=[(83,C83),(84,C84)] }
@[simp] theorem g61_s:type_of% (cfg_s (g:=g61) rfl):=cfg_s rfl
theorem w61 {s a_ b_} {y} (hp:zdu s a_ b_=some y):∃ m,callo g61 0 61 [av .shr s,av .shr a_,av .shr b_] mem0=some (Res.res y,m):=by
 refine st0 [.tmp 6] Tryz.func61 ?_
 unfold zdu at hp
 obtain ⟨e_1,h_2,hp⟩:=zaa hp
 have b_4:=at_hi h_2
 try simp at b_4
 have c_5:=seg_at' h_2 0 1 (by decide) (ds:=[.sc (.int .i64 e_1)]) rfl
 try simp at c_5
 obtain ⟨e_6,h_7,hp⟩:=zaa hp
 have b_9:=at_hi h_7
 try simp at b_9
 have c_10:=seg_at' h_7 0 1 (by decide) (ds:=[.sc (.int .i64 e_6)]) rfl
 try simp at c_10
 obtain ⟨y_11,h_12,hp⟩:=zaa hp
 have c_13:=C83_eq h_12
 simp at c_13
 simp [Tryz.f61,b_4,c_5,b_9,c_10,c_13]
 obtain ⟨r_51,h_52,hp⟩:=zaa hp
 obtain ⟨I_16,I_16_⟩:=exV fun (s_14:Int × Int) (σ:St)=>(σ.env 1=uL .shr a_∧σ.env 2=uL .shr b_∧σ.env 3=uP (1,3)∧σ.env 7=uI s_14.1∧σ.env 8=uI s_14.2∧σ.mem (1,3)=some [cL .shr s.nodes,cL .shr s.next])∧NoBox [(1,3)] σ.mem
 obtain ⟨X_17,X_17_⟩:=exV fun (r_51:Int) (out:Out)=>∃ σ:St,out=.exit 0 σ∧(σ.env 7=uI r_51∧σ.mem (1,3)=some [cL .shr s.nodes,cL .shr s.next])∧NoBox [(1,3)] σ.mem
 refine loopP ({ hd:=[1,2,3,7,8],bx:=[],ex:=[7],rt:=[6] }) I_16 X_17 h_52 (by exact rfl) ?_ ?_ ?_
 ·rw [I_16_]
  exact ⟨by simp [zac,zab],NoBox.restrict (by intro k hk hb;simp at hk hb;simp [hk,hb])⟩
 ·intro s_14 σ_18 a_15 hI hp
  rw [I_16_] at hI
  obtain ⟨q_20,hn_19⟩:=hI
  try simp [q_20]
  rcases zad hp with ⟨h_21,hp⟩|⟨h_21,hp⟩
  ·try simp at h_21
   try simp [q_20,h_21]
   obtain ⟨r_46,h_47,hp⟩:=zaa hp
   obtain ⟨I_24,I_24_⟩:=exV fun (s_22:Int × Int) (σ:St)=>(σ.env 1=uL .shr a_∧σ.env 2=uL .shr b_∧σ.env 3=uP (1,3)∧σ.env 7=uI s_22.1∧σ.env 8=uI s_14.2∧σ.env 9=uI s_22.2∧σ.mem (1,3)=some [cL .shr s.nodes,cL .shr s.next])∧NoBox [(1,3)] σ.mem
   obtain ⟨X_25,X_25_⟩:=exV fun (r_46:Int) (out:Out)=>∃ σ:St,out=.exit 2 σ∧(σ.env 1=uL .shr a_∧σ.env 2=uL .shr b_∧σ.env 3=uP (1,3)∧σ.env 7=uI r_46∧σ.env 8=uI s_14.2∧σ.mem (1,3)=some [cL .shr s.nodes,cL .shr s.next])∧NoBox [(1,3)] σ.mem
   refine loopP ({ hd:=[1,2,3,7,8,9],bx:=[],ex:=[1,2,3,7,8],rt:=[6] }) I_24 X_25 h_47 (by exact rfl) ?_ ?_ ?_
   ·rw [I_24_]
    exact ⟨by simp [zac,zab,q_20,h_21],NoBox.restrict (by intro k hk hb;simp at hk hb;simp [hk,hb,q_20,h_21,hn_19 k (by simp [hk,hb])])⟩
   ·intro s_22 σ_26 a_23 hI hp
    rw [I_24_] at hI
    obtain ⟨q_28,hn_27⟩:=hI
    try simp [h_21,q_28]
    rcases zad hp with ⟨h_29,hp⟩|⟨h_29,hp⟩
    ·try simp at h_29
     obtain ⟨e_30,h_31,hp⟩:=zaa hp
     have b_32:=at_lo h_31
     have b_33:=at_hi h_31
     try simp at b_32 b_33
     have c_34:=seg_at' h_31 0 1 (by decide) (ds:=[.sc (.int .i64 e_30)]) rfl
     try simp at c_34
     obtain ⟨e_35,h_36,hp⟩:=zaa hp
     have b_37:=at_lo h_36
     have b_38:=at_hi h_36
     try simp at b_37 b_38
     have c_39:=seg_at' h_36 0 1 (by decide) (ds:=[.sc (.int .i64 e_35)]) rfl
     try simp at c_39
     obtain ⟨y_40,h_41,hp⟩:=zaa hp
     have c_42:=C83_eq h_41
     simp at c_42
     obtain ⟨y_43,h_44,hp⟩:=zaa hp
     have c_45:=C84_eq h_44
     simp at c_45
     cases hp
     try simp [h_21,q_28,h_29,b_32,b_33,c_34,b_37,b_38,c_39,c_42,c_45]
     refine zag ?_
     rw [I_24_]
     exact ⟨by simp [zac,zab,h_21,q_28,h_29,b_32,b_33,c_34,b_37,b_38,c_39,c_42,c_45],NoBox.restrict (by intro k hk hb;simp at hk hb;simp [hk,hb,h_21,q_28,h_29,b_32,b_33,c_34,b_37,b_38,c_39,c_42,c_45,hn_27 k (by simp [hk,hb])])⟩
    ·try simp at h_29
     cases hp
     try simp [h_21,q_28,h_29]
     refine zak ?_
     rw [X_25_]
     exact ⟨_,rfl,by simp [zac,zab,h_21,q_28,h_29],NoBox.restrict (by intro k hk hb;simp at hk hb;simp [hk,hb,h_21,q_28,h_29,hn_27 k (by simp [hk,hb])])⟩
   ·intro out hX
    rw [X_25_] at hX
    obtain ⟨σ_48,rfl,q_50,hn_49⟩:=hX
    cases hp
    try simp [h_21,q_50]
    refine zag ?_
    rw [I_16_]
    exact ⟨by simp [zac,zab,h_21,q_50],NoBox.restrict (by intro k hk hb;simp at hk hb;simp [hk,hb,h_21,q_50,hn_49 k (by simp [hk,hb])])⟩
  ·try simp at h_21
   cases hp
   try simp [q_20,h_21]
   refine zak ?_
   rw [X_17_]
   exact ⟨_,rfl,by simp [zac,zab,q_20,h_21],NoBox.restrict (by intro k hk hb;simp at hk hb;simp [hk,hb,q_20,h_21,hn_19 k (by simp [hk,hb])])⟩
 ·intro out hX
  rw [X_17_] at hX
  obtain ⟨σ_53,rfl,q_55,hn_54⟩:=hX
  cases hp
  simp [Goal,FnEnd,q_55]
theorem pc61:PC Tryz.prog 61 C61:=pc_of (g:=g61) (zaj _ g61_s.2.1 ⟨pc83,pc84,trivial⟩) (ent Tryz.func61) fun x y h=>w61 h
end Go.Proofs

