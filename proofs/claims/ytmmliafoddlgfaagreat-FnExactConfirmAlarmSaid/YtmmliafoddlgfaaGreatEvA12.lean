import Derived.Test.YtmmliafoddlgfaaGreatEvA9
import Derived.Test.YtmmliafoddlgfaaGreatProg
import Derived.KernelRfl
import Derived.WalkKit
import Derived.Deep.LoopGhost
import Derived.Lib.Walk
import Derived.Lib.SliceRun
import Derived.Laws.OwnMore
import Derived.Lib.AppendZerosOnto
import Derived.Test.YtmmliafoddlgfaaGreatEvA7
import Derived.Deep.RegionLaw
import Derived.Shelf.RegionOpenPlain
import Derived.Lib.SlicesDelete
import Derived.Laws.Rows
import Derived.Laws.IdiomStrings
import Derived.Laws.BytesArg
import Derived.Test.YtmmliafoddlgfaaGreatEvA8
set_option linter.unusedSimpArgs false
set_option linter.unusedVariables false
set_option linter.unnecessarySimpa false
noncomputable section
namespace Go.Proofs
open Go.Ev
theorem st0 {g:Cfg} {f:Nat} {args:List AV} {fn:Go.Func} {r:AV} (l:List Go.ResultVar) (h1:Tryz.prog.funcs[f]?=some fn) (h:Goal (FnEnd Tryz.prog 0 l ((lookK (f,atEnd) g.gho).getD []) r) (evk g (0+1) f (fn.body.getD .skip) [] { env:=fun t=>(args[t]?).getD .dead,mem:=mem0 }))
 (h0:lookN f g.ctx=none:=by rfl) (hP:g.P=Tryz.prog:=by rfl) (h2:fn.body=some (fn.body.getD .skip):=by kernel_rfl) (h3:fnOK g f fn=true:=by kernel_rfl) (h4:Nat.ble args.length fn.ntmps=true:=by kernel_rfl) (h5:fn.results.toList=l:=by rfl):∃ m,callo g 0 f args mem0=some (r,m) :=
 start_fn _ l h0 hP h1 h2 h3 (Nat.le_of_ble_eq_true h4) h5 h
theorem stD {g:Cfg} {f d:Nat} {args:List AV} {fn:Go.Func} {r:AV} {mem:Mem} {Q:Mem→Prop} (l:List Go.ResultVar) (h1:Tryz.prog.funcs[f]?=some fn) (h:∀ QV,QV=Q→Goal (FnEndD Tryz.prog d l ((lookK (f,atEnd) g.gho).getD []) r QV) (evk g (d+1) f (fn.body.getD .skip) [] { env:=fun t=>(args[t]?).getD .dead,mem }))
 (h0:lookN f g.ctx=none:=by rfl) (hP:g.P=Tryz.prog:=by rfl) (h2:fn.body=some (fn.body.getD .skip):=by kernel_rfl) (h3:fnOK g f fn=true:=by kernel_rfl) (h4:Nat.ble args.length fn.ntmps=true:=by kernel_rfl) (h5:fn.results.toList=l:=by rfl):∃ m,callo g d f args mem=some (r,m)∧Q m :=
 start_D _ l h0 hP h1 h2 h3 (Nat.le_of_ble_eq_true h4) h5 h
theorem ent {f : Nat} {fn : Go.Func} (h : Tryz.prog.funcs[f]? = some fn) (h1 : fn.body.isSome = true := by kernel_rfl) (h2 : (fn.name == "runtime.NumGoroutine") = false := by kernel_rfl) : Go.Ev.Enters Tryz.prog f := ⟨fn, h, h1, h2⟩
@[simp] theorem ti_3:ti Tryz.prog 3=some { size:=1,bytes:=8,agg:=false,elem:=none,flds:=[],zero:=[.int .i64 0] }:=by kernel_rfl
@[simp] theorem ti_4:ti Tryz.prog 4=some { size:=1,bytes:=1,agg:=false,elem:=none,flds:=[],zero:=[.bool false] }:=by kernel_rfl
attribute [simp] Tryz.underlying4
@[simp] theorem ti_9:ti Tryz.prog 9=some { size:=1,bytes:=16,agg:=false,elem:=none,flds:=[],zero:=[.string ByteArray.empty] }:=by kernel_rfl
attribute [simp] Tryz.underlying9
@[simp] theorem ti_22:ti Tryz.prog 22=some { size:=1,bytes:=24,agg:=false,elem:=some 9,flds:=[],zero:=[.slice none 0 0] }:=by kernel_rfl
@[simp] theorem ti_23:ti Tryz.prog 23=some { size:=1,bytes:=24,agg:=false,elem:=some 110,flds:=[],zero:=[.slice none 0 0] }:=by kernel_rfl
@[simp] theorem ti_25:ti Tryz.prog 25=some { size:=3,bytes:=56,agg:=true,elem:=none,flds:=[(0,22),(1,3),(2,23)],zero:=[.slice none 0 0,.int .i64 0,.slice none 0 0] }:=by kernel_rfl
@[simp] theorem ti_26:ti Tryz.prog 26=some { size:=1,bytes:=24,agg:=false,elem:=some 3,flds:=[],zero:=[.slice none 0 0] }:=by kernel_rfl
@[simp] theorem ti_28:ti Tryz.prog 28=some { size:=2,bytes:=48,agg:=true,elem:=none,flds:=[(0,26),(1,26)],zero:=[.slice none 0 0,.slice none 0 0] }:=by kernel_rfl
@[simp] theorem ti_31:ti Tryz.prog 31=some { size:=2,bytes:=48,agg:=true,elem:=none,flds:=[(0,26),(1,26)],zero:=[.slice none 0 0,.slice none 0 0] }:=by kernel_rfl
@[simp] theorem ti_33:ti Tryz.prog 33=some { size:=3,bytes:=56,agg:=true,elem:=none,flds:=[(0,3),(1,31)],zero:=[.int .i64 0,.slice none 0 0,.slice none 0 0] }:=by kernel_rfl
@[simp] theorem ti_36:ti Tryz.prog 36=some { size:=1,bytes:=24,agg:=false,elem:=some 85,flds:=[],zero:=[.slice none 0 0] }:=by kernel_rfl
@[simp] theorem ti_38:ti Tryz.prog 38=some { size:=3,bytes:=56,agg:=true,elem:=none,flds:=[(0,22),(1,3),(2,36)],zero:=[.slice none 0 0,.int .i64 0,.slice none 0 0] }:=by kernel_rfl
@[simp] theorem ti_51:ti Tryz.prog 51=some { size:=1,bytes:=24,agg:=false,elem:=some 28,flds:=[],zero:=[.slice none 0 0] }:=by kernel_rfl
@[simp] theorem ti_54:ti Tryz.prog 54=some { size:=1,bytes:=24,agg:=false,elem:=some 31,flds:=[],zero:=[.slice none 0 0] }:=by kernel_rfl
@[simp] theorem ti_58:ti Tryz.prog 58=some { size:=1,bytes:=24,agg:=false,elem:=some 33,flds:=[],zero:=[.slice none 0 0] }:=by kernel_rfl
@[simp] theorem ti_65:ti Tryz.prog 65=some { size:=4,bytes:=80,agg:=true,elem:=none,flds:=[(0,31),(2,26),(3,3)],zero:=[.slice none 0 0,.slice none 0 0,.slice none 0 0,.int .i64 0] }:=by kernel_rfl
@[simp] theorem ti_71:ti Tryz.prog 71=some { size:=2,bytes:=16,agg:=true,elem:=none,flds:=[(0,3),(1,3)],zero:=[.int .i64 0,.int .i64 0] }:=by kernel_rfl
@[simp] theorem ti_73:ti Tryz.prog 73=some { size:=2,bytes:=16,agg:=true,elem:=none,flds:=[(0,3),(1,3)],zero:=[.int .i64 0,.int .i64 0] }:=by kernel_rfl
@[simp] theorem ti_83:ti Tryz.prog 83=some { size:=3,bytes:=40,agg:=true,elem:=none,flds:=[(0,3),(1,9),(2,9)],zero:=[.int .i64 0,.string ByteArray.empty,.string ByteArray.empty] }:=by kernel_rfl
@[simp] theorem ti_85:ti Tryz.prog 85=some { size:=5,bytes:=56,agg:=true,elem:=none,flds:=[(0,3),(1,3),(2,83)],zero:=[.int .i64 0,.int .i64 0,.int .i64 0,.string ByteArray.empty,.string ByteArray.empty] }:=by kernel_rfl
@[simp] theorem ti_98:ti Tryz.prog 98=some { size:=1,bytes:=8,agg:=false,elem:=none,flds:=[],zero:=[.nilFunc] }:=by kernel_rfl
@[simp] theorem ti_100:ti Tryz.prog 100=some { size:=1,bytes:=24,agg:=false,elem:=some 104,flds:=[],zero:=[.slice none 0 0] }:=by kernel_rfl
@[simp] theorem ti_104:ti Tryz.prog 104=some { size:=5,bytes:=72,agg:=true,elem:=none,flds:=[(0,33),(3,3),(4,3)],zero:=[.int .i64 0,.slice none 0 0,.slice none 0 0,.int .i64 0,.int .i64 0] }:=by kernel_rfl
@[simp] theorem ti_108:ti Tryz.prog 108=some { size:=3,bytes:=40,agg:=true,elem:=none,flds:=[(0,3),(1,9),(2,9)],zero:=[.int .i64 0,.string ByteArray.empty,.string ByteArray.empty] }:=by kernel_rfl
@[simp] theorem ti_110:ti Tryz.prog 110=some { size:=5,bytes:=56,agg:=true,elem:=none,flds:=[(0,3),(1,3),(2,108)],zero:=[.int .i64 0,.int .i64 0,.int .i64 0,.string ByteArray.empty,.string ByteArray.empty] }:=by kernel_rfl
@[simp] theorem ti_158:ti Tryz.prog 158=some { size:=1,bytes:=24,agg:=false,elem:=some 26,flds:=[],zero:=[.slice none 0 0] }:=by kernel_rfl
end Go.Proofs


namespace Go.Proofs
open Go.Ev Go.RowKit Go.Lib Go.Sort
theorem INFO3:(Tryz.prog.info? 3).map (fun i=>(i.zero,i.size,i.bytes))=some (some (.int .i64 0),1,8):=by kernel_rfl
set_option maxHeartbeats 4000000 in
set_option maxRecDepth 100000 in
theorem grow155_zero (w:World):Calls Tryz.prog 155 #[.slice none 0 0,.int .i64 0] w fun e w'=>e=.returned (.slice none 0 0)∧w'=w:=by
 have u26:∀ w,Sem.run Tryz.prog (underlying 26) w=.ok (TypeDesc.slice 3) w:=run_underlying Tryz.underlying26
 go_enter Tryz.func155,Tryz.ntmps155
 go_wp2
 go_ret
 exact ⟨rfl,rfl⟩

set_option maxHeartbeats 4000000 in
set_option maxRecDepth 100000 in
theorem grow155_pos (n:Nat) (w:World) (h0:0 < n) (hbig:n * 8≤140737488355328) :
 Calls Tryz.prog 155 #[.slice none 0 0,.int .i64 n] w fun e w'=>∃ v,e=.returned v∧w'.ownsRow w.heap.size 3 1 v 0 []∧Below w.heap.size w w':=by
 obtain ⟨i0,hi,hz0,hz1,hz2⟩:=info_parts INFO3
 have u26:∀ w,Sem.run Tryz.prog (underlying 26) w=.ok (TypeDesc.slice 3) w:=run_underlying Tryz.underlying26
 have hrz:=fun ty=>run_append_grow_zeros (P:=Tryz.prog) w 26 3 ty 3 i0 (.int .i64 0) .i64 .i64 Tryz.underlying26 Tryz.underlying3 hi hz0 none 0 0 [] (run_firstCells_none w.drew i0.size 0 0 0) n h0 (by omega) (by omega) (by omega) (by rw [hz2];omega)
  (by rw [hz2];exact growslice_fits (by omega) (by omega))
 have hGn:0+n≤grownCap w (0+n) 0 3:=grownCap_ge w _ _ _
 have hGm:=grownCap_le_maxLen w (0+n) 0 3 (by unfold maxLen;omega)
 obtain ⟨G,hG⟩:∃ G,G=grownCap w (0+n) 0 3:=⟨_,rfl⟩
 rw [← hG] at hrz hGn hGm
 have A:Aside (G≤maxLen):=hGm
 clear hG hGm
 simp only [Nat.zero_add] at hrz hGn
 have h1:¬ ((n:Int) < 0):=by omega
 have h2:((n:Int) > 0):=by omega
 have h3:wrap64 (n:Int)=n:=by unfold wrap64;omega
 have h4:G≤9223372036854775807:=by have:=A.out;unfold maxLen at this;omega
 have B:Aside (i0.size=1):=hz1
 clear hz1 hz2
 go_enter Tryz.func155,Tryz.ntmps155
 go_wp2_with (at_builtin;refine Lib.wpList_append_run _ rfl _ _ _ _ rfl _ _ rfl rfl _ _ (hrz _) ?_)
 all_goals (go_ret;refine ⟨_,rfl,⟨rfl,.inr ⟨_,_,_,rfl,Nat.le_refl _,heap_new _ _,Nat.zero_le _,A.out,?_,by simp⟩⟩,rfl,rfl,rfl,by (show w.heap.size≤(w.heap.push _).size);rw [Array.size_push];omega,fun k hk=>heap_old _ _ hk⟩)
 all_goals (simp [Builtin.zeroCells];omega)

theorem grow155 (n:Nat) (w:World) (hbig:n * 8≤140737488355328) :
 Calls Tryz.prog 155 #[.slice none 0 0,.int .i64 n] w fun e w'=>∃ v,e=.returned v∧w'.ownsRow w.heap.size 3 1 v 0 []∧(n=0→v=.slice none 0 0)∧Below w.heap.size w w':=by
 rcases Nat.eq_zero_or_pos n with rfl | hn
 ·refine (grow155_zero w).mono fun e w' h=>?_
  obtain ⟨rfl,rfl⟩:=h
  exact ⟨_,rfl,⟨rfl,.inl ⟨rfl,rfl⟩⟩,fun _=>rfl,Below.refl _ _⟩
 ·refine (grow155_pos n w hn hbig).mono fun e w' h=>?_
  obtain ⟨v,rfl,h1,h2⟩:=h
  exact ⟨v,rfl,h1,fun h0=>by omega,h2⟩

set_option maxHeartbeats 8000000 in
set_option maxRecDepth 1000000 in
theorem concat138 (xa:Option Addr) (xb xo N xc:Nat) (ra:Nat→Option Addr) (nn rc:Nat→Nat) (ne:Nat→List Value) (w:World) (hxa:0 < N→xa=some ⟨xb,xo,none⟩) (hN:Hid (N≤maxLen))
 (hc:Aside (∀ j,j < N→w.cell? ⟨xb,xo+j,none⟩=some (.slice (ra j) (nn j) (rc j)))) (hr:Aside (∀ j,j < N→RowAt w 1 (ra j) (nn j) (ne j))) (hbig:Aside (tot nn N * 8≤140737488355328)) :
 Calls Tryz.prog 138 #[.slice xa N xc] w fun e w'=>∃ v,e=.returned v∧w'.ownsRow w.heap.size 3 1 v (tot nn N) (cat ne N)∧(tot nn N=0→v=.slice none 0 0)∧Below w.heap.size w w':=by
 obtain ⟨i0,hi,hz0,hz1,hz2⟩:=info_parts INFO3
 have B:Aside (i0.size=1∧i0.bytes=8):=⟨hz1,hz2⟩
 clear hz1 hz2
 go_enter Tryz.func138,Tryz.ntmps138
 go_wp2
 go_loopg [3,11] N (fun k s c wr=>∃ j,k=N - j∧j≤N∧s=.int .i64 (tot nn j:Nat)∧c=.int .i64 j∧w=wr)
 case atStart=>exact ⟨0,rfl,Nat.zero_le _,rfl,rfl,rfl⟩
 case round =>
  obtain ⟨j,hk,hj,rfl,rfl,rfl⟩:=hrel
  by_cases hlt:j < N
  ·obtain rfl:=hxa (by omega)
   have hx:=hc.out j hlt
   have hlt':(j:Int) < (N:Int):=by omega
   have hw:wrap64 ((tot nn j:Int)+(nn j:Int))=((tot nn (j+1):Nat):Int):=by
    have:=tot_mono nn (i:=j+1) (j:=N) (by omega)
    have:=hbig.out
    exact wrap_add (by simp only [tot] at *; unfold maxLen;omega)
   have hneg:¬ (((tot nn (j+1):Nat):Int) < 0):=by omega
   go_wp2
   go_roundg (N - (j+1))
   case measure=>omega
   case rel=>exact ⟨j+1,rfl,by omega,rfl,by simp;exact wrap_add (a:=j) (b:=1) (by have:=hN.out;omega),rfl⟩
  ·obtain rfl:j=N:=by omega
   have hg:=grow155 (tot nn j) w hbig.out
   go_wp2_with (go_at_call 155;refine hg.mono ?_;rintro e w' ⟨v,rfl,hown,hnil,hbel⟩)
   clear hg
   go_loopg [6,27] j (fun k d c wq=>∃ i,k=j - i∧i≤j∧c=.int .i64 i∧wq.ownsRow w.heap.size 3 1 d (tot nn i) (cat ne i)∧(tot nn j=0→d=.slice none 0 0)∧Below w.heap.size w wq)
   case atStart=>exact ⟨0,rfl,Nat.zero_le _,rfl,hown,hnil,hbel⟩
   case round =>
    obtain ⟨i,hk,hi2,rfl,hown2,hnil2,hbel2⟩:=hrel
    by_cases hlt2:i < j
    ·obtain rfl:=hxa (by omega)
     have hx:wr.cell? ⟨xb,xo+i,none⟩=some (.slice (ra i) (nn i) (rc i)):=by
      have:=hc.out i hlt2
      rw [← this]
      exact World.cell?_of_block (hbel2.block xb (World.block_lt_of_cell? _ _ this))
     obtain ⟨v2,w2,hrun,hown3,hgr,hnil3⟩:=run_append_rowAt (P:=Tryz.prog) w.heap.size 26 26 3 i0 (.int .i64 0) 1 8 Tryz.underlying26 hi hz0 B.out.1 B.out.2 rfl (by decide) _ _ _ hown2 (ra i) (nn i) (rc i) (ne i) (hr.out i hlt2) hbel2.block
      (by have:=tot_mono nn (i:=i+1) (j:=j) (by omega);have:=hbig.out;simp only [tot] at *; unfold maxLen;omega) (by have:=tot_mono nn (i:=i+1) (j:=j) (by omega);have:=hbig.out;simp only [tot] at *; omega) hbel2.size
     have hbel3:Below w.heap.size w w2:=by
      refine hbel2.trans ⟨hgr.os,hgr.tape,hgr.output,hgr.size,fun k hk=>hgr.block k (Nat.lt_of_lt_of_le hk hbel2.size) fun he=>?_⟩
      rcases hown2.2 with ⟨h1,_⟩|⟨g,cap,cur,h1,h2,_⟩
      ·rw [h1] at he;simp [Value.ownBlock] at he
      ·rw [h1] at he;simp [Value.ownBlock] at he;omega
     have hnil4:tot nn j=0→v2=.slice none 0 0:=fun h0=>by
      have:=tot_mono nn (i:=i+1) (j:=j) (by omega)
      rw [hnil3 (by simp only [tot] at *; omega),hnil2 h0]
     have hlt3:(i:Int) < (j:Int):=by omega
     have H:Aside (w2.ownsRow w.heap.size 3 1 v2 (tot nn (i+1)) (cat ne (i+1))∧(tot nn j=0→v2=.slice none 0 0)∧Below w.heap.size w w2):=⟨hown3,hnil4,hbel3⟩
     clear hown3 hnil4 hbel3 hnil3 hgr hown2 hnil2 hbel2 hown hnil hbel
     go_wp2_with (at_builtin;refine Lib.wpList_append_run _ rfl _ _ _ _ rfl _ _ rfl rfl _ _ hrun ?_)
     go_roundg (j - (i+1))
     case measure=>omega
     case rel=>exact ⟨i+1,rfl,by omega,by simp;exact wrap_add (a:=i) (b:=1) (by have:=hN.out;omega),H.out.1,H.out.2⟩
    ·obtain rfl:i=j:=by omega
     go_wp2
     go_ret
     exact ⟨_,rfl,hown2,hnil2,hbel2⟩

def C138:List AV→Option AV:=specP (X:=List (List Int) × Unit) fun x=>slices_Concat_int x.1
theorem C138_eq {s:List (List Int)} {y} (h:slices_Concat_int s=some y):C138 [av .shr s]=some (Res.res y):=zai (X:=List (List Int) × Unit) (F:=fun x=>slices_Concat_int x.1) (x:=(s,())) h
theorem pc138:PC Tryz.prog 138 C138 :=
 pc_concat (α:=Int) (e:=3) (bytes:=8) ⟨Tryz.f138,Tryz.func138,by kernel_rfl,by kernel_rfl⟩
  fun xa xb xo N xc ra nn rc ne w h1 h2 h3 h4 h5=>concat138 xa xb xo N xc ra nn rc ne w h1 h2 h3 h4 h5

set_option maxHeartbeats 2000000 in
set_option maxRecDepth 100000 in
theorem clone97_nil (n c:Nat) (w:World):Calls Tryz.prog 97 #[.slice none n c] w fun e w'=>e=.returned (.slice none 0 0)∧w'=w:=by
 have q26:∀ (w:World) (a:Option Addr) (n c n' c':Nat),(binOp .eql 26 (.slice a n c) (.slice none n' c')).run Tryz.prog w=.ok (.bool a.isNone) w:=fun w a n c n' c'=>Lib.run_eql_slice_nil w _ _ a n c n' c' Tryz.underlying26
 go_enter Tryz.func97,Tryz.ntmps97
 go_wp2
 go_ret
 exact ⟨rfl,rfl⟩

set_option maxHeartbeats 2000000 in
set_option maxRecDepth 100000 in
theorem clone97_zero (a:Addr) (c:Nat) (w:World) :
 Calls Tryz.prog 97 #[.slice (some a) 0 c] w fun e w'=>∃ b,e=.returned (.slice b 0 0)∧w'=w.alloc (.cells #[] 3):=by
 have q26:∀ (w:World) (a:Option Addr) (n c n' c':Nat),(binOp .eql 26 (.slice a n c) (.slice none n' c')).run Tryz.prog w=.ok (.bool a.isNone) w:=fun w a n c n' c'=>Lib.run_eql_slice_nil w _ _ a n c n' c' Tryz.underlying26
 go_enter Tryz.func97,Tryz.ntmps97
 go_wp2
 go_ret
 exact ⟨_,rfl,rfl⟩

set_option maxHeartbeats 2000000 in
set_option maxRecDepth 100000 in
theorem clone97_row (b off n c:Nat) (vs:List Value) (w:World) (hlen:vs.length=n * 1) (hbig:n * 8≤140737488355328) (hsc:∀ u∈vs,scal u=true) (hc:∀ j u,vs[j]?=some u→w.cell? ⟨b,off+j,none⟩=some u) :
 Calls Tryz.prog 97 #[.slice (some ⟨b,off,none⟩) n c] w fun e w'=>∃ v',e=.returned v'∧w'.ownsRow w.heap.size 3 1 v' n vs∧Below w.heap.size w w':=by
 obtain ⟨i0,hi,hz0,hz1,hz2⟩:=info_parts INFO3
 have q26:∀ (w:World) (a:Option Addr) (n c n' c':Nat),(binOp .eql 26 (.slice a n c) (.slice none n' c')).run Tryz.prog w=.ok (.bool a.isNone) w:=fun w a n c n' c'=>Lib.run_eql_slice_nil w _ _ a n c n' c' Tryz.underlying26
 have u26:∀ w,Sem.run Tryz.prog (underlying 26) w=.ok (TypeDesc.slice 3) w:=run_underlying Tryz.underlying26
 have A:Aside (∀ j u,vs[j]?=some u→w.cell? ⟨b,off+j,none⟩=some u):=hc
 clear hc
 go_enter Tryz.func97,Tryz.ntmps97
 go_wp2_with (at_builtin;refine wpList_append_own _ rfl _ _ 26 rfl w.heap.size 3 i0 (.int .i64 0) 1 8 Tryz.underlying26 hi hz0 hz1 hz2 rfl (by decide) _ _ _ rfl (World.ownsRow_made w #[] 0 (Nat.le_refl _) (Nat.zero_le _) rfl) ⟨b,off,none⟩ n c vs rfl ?qc1 ?qc2 ?qc3 ?qc4 ?qc5 ?qc6 ?_)
 case qc1=>exact hlen
 case qc2 =>
  intro j u hj
  rw [Addr.add_lit]
  exact Lib.cell?_alloc_some _ (A.out j u hj)
 case qc3 =>
  intro u hu
  have:=hsc u hu
  cases u <;> first | rfl | cases this
 case qc4=>unfold maxLen;omega
 case qc5=>omega
 case qc6=>simp
 intro v' w1 hown hgrow hnil
 go_wp2
 go_ret
 refine ⟨_,rfl,by simpa using hown,?_⟩
 refine ⟨hgrow.os,hgrow.tape,hgrow.output,?_,fun k hk=>?_⟩
 ·have:=hgrow.size;rw [World.size_alloc] at this;omega
 ·rw [hgrow.block k (by rw [World.size_alloc];omega) (by simp [Value.ownBlock];omega),heap_old w _ hk]

def C97:List AV→Option AV:=specP (X:=List Int × Unit) fun x=>slices_Clone_int x.1
theorem C97_eq {s:List Int} {y} (h:slices_Clone_int s=some y):C97 [av .shr s]=some (Res.res y):=zai (X:=List Int × Unit) (F:=fun x=>slices_Clone_int x.1) (x:=(s,())) h
theorem pc97:PC Tryz.prog 97 C97 :=
 pc_clone (α:=Int) (e:=3) (bytes:=8) ⟨Tryz.f97,Tryz.func97,by kernel_rfl,by kernel_rfl⟩ clone97_nil
  (fun a c w=>(clone97_zero a c w).mono fun e w' h=>by
   obtain ⟨b,rfl,rfl⟩:=h
   exact ⟨b,rfl,rfl,rfl,rfl,by rw [World.size_alloc];omega,fun k hk=>heap_old w _ hk⟩)
  clone97_row

theorem sub_wrap (x:Int):subI x 1=wrap64 (x - 1):=Go.IntWalk.i64_left _
theorem zero3 (w:World):(zeroValue 3).run Tryz.prog w=.ok (.int .i64 0) w:=by kernel_rfl

set_option maxHeartbeats 4000000 in
set_option maxRecDepth 1000000 in
theorem del156 (blk cap i j:Nat) (d:Array Int) (w:World) (hH:Holds (Value.int .i64) w blk 0 d) (hcap:d.size≤cap) (hij:i < j) (hj:j≤d.size) :
 Calls Tryz.prog 156 #[.slice (some ⟨blk,0,none⟩) d.size cap,.int .i64 i,.int .i64 j] w fun e w'=>e=.returned (.slice (some ⟨blk,0,none⟩) (d.size - (j - i)) cap) ∧
  ∃ q,w'=putRow (Value.int .i64) (Sort.ahead w q) blk 0 (d.toList.take i ++ d.toList.drop j ++ List.replicate (j - i) 0).toArray:=by
 obtain ⟨i0,hi0,hz0,hz1,hz2⟩:=info_parts INFO3
 have t26:=Tryz.underlying26
 have mixed:Tryz.prog.follows .mixedOrders=true:=by kernel_rfl
 have u26:∀ w,Sem.run Tryz.prog (underlying 26) w=.ok (TypeDesc.slice 3) w:=run_underlying Tryz.underlying26
 obtain ⟨news,hnews⟩:∃ news,news=(d.toList.drop j).map (Value.int .i64):=⟨_,rfl⟩
 have hlen:news.length=d.size - j:=by rw [hnews];simp
 have hget:∀ t,t < d.size - j→news[t]?=some (.int .i64 d[j+t]!):=by
  intro t ht
  rw [hnews,List.getElem?_map,List.getElem?_drop,Array.getElem?_toList,getElem!_pos d (j+t) (by omega),Array.getElem?_eq_getElem (by omega)]
  rfl
 obtain ⟨A,hA,hsrc⟩:∃ A:Addr,(if cap=j then some (⟨blk,0,none⟩:Addr) else some ⟨blk,j,none⟩)=some A∧Hid (∀ t u,news[t]?=some u→w.drew.cell? (A.add t)=some u):=by
  by_cases h:cap=j
  ·refine ⟨⟨blk,0,none⟩,by simp [h],fun t u hu=>?_⟩
   have h0:news.length=0:=by rw [hlen];omega
   rw [List.length_eq_zero_iff.1 h0] at hu
   simp at hu
  ·refine ⟨⟨blk,j,none⟩,by simp [h],fun t u hu=>?_⟩
   have ht:t < d.size - j:=by
    have:=(List.getElem?_eq_some_iff.1 hu).1
    rwa [hlen] at this
   rw [hget t ht] at hu
   have:=(hH (j+t) (by omega)).1
   rw [Nat.zero_add] at this
   rw [Addr.add_lit]
   exact this.trans hu
 have s1:Hid (news.length=(d.size - j) * 1):=by rw [Nat.mul_one];exact hlen
 have s2:Hid (∀ u∈news,u.oneCell'=true):=by
  intro u hu
  rw [hnews] at hu
  obtain ⟨x,_,rfl⟩:=List.mem_map.1 hu
  rfl
 have s3:Hid (∀ t,t < news.length→(w.drew.cell? ⟨blk,0+i * 1+t,none⟩).isSome=true∧w.drew.frozen? ⟨blk,0+i * 1+t,none⟩=false):=by
  intro t ht
  rw [hlen] at ht
  rw [Nat.mul_one,Nat.add_assoc]
  exact ⟨by show (w.cell? _).isSome=true;rw [(hH (i+t) (by omega)).1];rfl,(hH (i+t) (by omega)).2⟩
 obtain ⟨W1,hW1⟩:∃ W1,W1=w.drew.setCells blk (0+i * 1) news:=⟨_,rfl⟩
 have hW1':W1=putRow (Value.int .i64) (Sort.ahead w 1) blk 0 (lay d i (d.toList.drop j)):=by
  rw [hW1,hnews,Nat.mul_one,← putRow_setCells (Value.int .i64) (Sort.ahead w 1) blk 0 _ d i (by simp;omega),putRow_self (Value.int .i64) (Sort.ahead w 1) blk 0 d (holds_ahead (Value.int .i64) w 1 blk 0 d hH)]
  rfl
 have hH1:Holds (Value.int .i64) W1 blk 0 (lay d i (d.toList.drop j)):=by rw [hW1'];exact holds_putRow (Value.int .i64) _ blk 0 d _ (holds_ahead (Value.int .i64) w 1 blk 0 d hH) (lay_size _ _ _)
 have hcl:∀ ty,(Builtin.clear_ #[26] ty #[.slice (some ⟨blk,i+(d.size - j),none⟩) (d.size - (i+(d.size - j))) (cap - (i+(d.size - j)))]).run Tryz.prog W1=.ok (.tuple #[]) (W1.setCells blk (i+(d.size - j)) (List.replicate (d.size - (i+(d.size - j))) (.int .i64 0))) :=
  fun ty=>Lib.run_clear_slice W1 _ _ ty _ t26 zero3 rfl rfl blk (i+(d.size - j)) _ _ (by omega) (fun t ht=>by have:=(hH1 (i+(d.size - j)+t) (by rw [lay_size];omega)).1;rw [Nat.zero_add] at this;rw [this];rfl) (fun t ht=>by have:=(hH1 (i+(d.size - j)+t) (by rw [lay_size];omega)).2;rwa [Nat.zero_add] at this)
 have X:Aside (W1=putRow (Value.int .i64) (Sort.ahead w 1) blk 0 (lay d i (d.toList.drop j))):=hW1'
 have hW:Hid (W1=w.drew.setCells blk (0+i * 1) news):=hW1
 have hic:i≤cap:=by omega
 have hjc:j≤cap:=by omega
 have hq:¬ ((i:Int)=(j:Int)):=by omega
 clear hW1 hW1' hH1 hH hget hnews hlen
 go_enter Tryz.func156,Tryz.ntmps156
 go_wp2_with fail
 go_region_law_o (refine step_append_room rfl (.tmp 22) (.tmp 25) 26 rfl 3 i0 1 t26 hi0 hz1 blk 0 i cap (by simp [Act.eval,Act.put]) A (d.size - j) (cap - j) news (by simp [Act.eval,Act.put]) s1.out hsrc.out s2.out (by omega) s3.out ?_;rw [← hW.out])
 go_wp2
 go_ret
 refine ⟨by rw [show d.size - (j - i)=i+(d.size - j) by omega];rfl,1,?_⟩
 rw [← delete_arr d i j 0 (by omega) hj,← putRow_setCells (Value.int .i64) _ blk 0 _ _ (i+(d.size - j)) (by rw [lay_size];simp;omega),← X.out,List.map_replicate,show d.size - (i+(d.size - j))=j - i by omega]
 simp


set_option maxHeartbeats 4000000 in
set_option maxRecDepth 1000000 in
theorem without143 (d1 d2:Array Int) (n1 n2 c c1 c2 b1 b2:Nat) (w:World) (e1:d1.size=n1) (e2:d2.size=n2) (hx:n1≤1000000) (hy:n2≤1000000) (hc:c < n2) (hne:b1≠b2) (hb1:b1 < w.heap.size) (hb2:b2 < w.heap.size)
 (H1:Holds (Value.int .i64) w b1 0 d1) (H2:Holds (Value.int .i64) w b2 0 d2) (hc1:n1≤c1) (hc2:n2≤c2) :
 Calls Tryz.prog 143 #[.agg #[.slice (some ⟨b1,0,none⟩) n1 c1,.slice (some ⟨b2,0,none⟩) n2 c2],.int .i64 c] w fun e w' =>
  e=.returned (.agg #[.slice (some ⟨b1,0,none⟩) n1 c1,.slice (some ⟨b2,0,none⟩) (n2 - 1) c2])∧Two w w' b1 b2 (d1.toList.map (decI c)) ((d2.toList.take c ++ d2.toList.drop (c+1)).map (decI c)):=by
 have u26:∀ w,Sem.run Tryz.prog (underlying 26) w=.ok (TypeDesc.slice 3) w:=run_underlying Tryz.underlying26
 have u112:∀ w,Sem.run Tryz.prog (underlying 158) w=.ok (TypeDesc.slice 26) w:=run_underlying Tryz.underlying158
 have hdel:Hid (∀ W,Holds (Value.int .i64) W b2 0 d2→Calls Tryz.prog 156 #[.slice (some ⟨b2,0,none⟩) n2 c2,.int .i64 c,.int .i64 ((c:Int)+1)] W fun e w'=>e=.returned (.slice (some ⟨b2,0,none⟩) (n2 - 1) c2) ∧
  ∃ q,w'=putRow (Value.int .i64) (Sort.ahead W q) b2 0 (d2.toList.take c ++ d2.toList.drop (c+1) ++ [0]).toArray):=by
  intro W hW
  have:=del156 b2 c2 c (c+1) d2 W hW (by omega) (by omega) (by omega)
  rw [e2,show c+1 - c=1 by omega] at this
  simpa using this
 have HA:Hid (Holds (Value.int .i64) w b1 0 d1∧Holds (Value.int .i64) w b2 0 d2):=⟨H1,H2⟩
 have HB:Hid (d1.size=n1∧d2.size=n2):=⟨e1,e2⟩
 have w1:wrap64 ((c:Int)+1)=c+1:=by unfold wrap64;omega
 clear H1 H2 e1 e2
 have HW0:Hid (Holds (Value.int .i64) ((w.alloc (.cells #[.slice (some ⟨b1,0,none⟩) n1 c1,.slice (some ⟨b2,0,none⟩) n2 c2] 31)).alloc (.cells #[.slice none 0 0,.slice none 0 0] 31)) b2 0 d2):=by
  intro j hj
  have:=HA.out.2 j hj
  have e:((w.alloc (.cells #[.slice (some ⟨b1,0,none⟩) n1 c1,.slice (some ⟨b2,0,none⟩) n2 c2] 31)).alloc (.cells #[.slice none 0 0,.slice none 0 0] 31)).heap[b2]?=w.heap[b2]?:=by rw [heapA _ _ (by simp;omega),heapA _ _ hb2]
  unfold World.cell? World.frozen? at *
  simp only [e] at *
  exact this
 go_enter Tryz.func143,Tryz.ntmps143
 go_wp2_with fail
 refine (hdel.out _ HW0.out).mono ?_
 rintro e W ⟨rfl,q,hW⟩
 obtain ⟨⟨k0,k1,k2,k3⟩,hJ⟩:=WJ.start (s2':=.slice (some ⟨b2,0,none⟩) (n2 - 1) c2) (ty':=26) hne hb1 hb2 HA.out.1 HA.out.2 (by simp [HB.out.2];omega) hW
 have J0:Hid _:=hJ
 clear hJ hW HW0 hdel
 obtain ⟨D2,hD⟩:∃ D2,D2=(d2.toList.take c ++ d2.toList.drop (c+1) ++ [0]).toArray:=⟨_,rfl⟩
 rw [← hD] at J0
 have HD:Hid (D2.size=n2):=by show D2.size=n2;rw [hD];simp [HB.out.2];omega
 have HE:Hid (D2=(d2.toList.take c ++ d2.toList.drop (c+1) ++ [0]).toArray):=hD
 clear hD
 have hn:n2 - 1≤c2:=by omega
 go_wp2
 clear k0 k1 k2 k3
 go_loopg [22] 2 (fun k s22 wr=>∃ j:Nat,k=2 - j∧j≤2∧s22=.int .i64 j∧WJ w wr b1 b2 w.heap.size (w.heap.size+1) (w.heap.size+2) (.slice (some ⟨b1,0,none⟩) n1 c1) (.slice (some ⟨b2,0,none⟩) (n2 - 1) c2) (decTo c d1 (if 1≤j then n1 else 0)) (decTo c D2 (if 2≤j then n2 - 1 else 0)))
 case atStart=>exact ⟨0,rfl,by omega,rfl,by simpa [decTo_zero] using J0.out⟩
 clear J0
 obtain ⟨j,hk,hj,rfl,hJ⟩:=hrel
 have hcase:j=0∨j=1∨j=2:=by omega
 rcases hcase with rfl | rfl | rfl
 ·have JA:Hid (WJ w wr b1 b2 w.heap.size (w.heap.size+1) (w.heap.size+2) (.slice (some ⟨b1,0,none⟩) n1 c1) (.slice (some ⟨b2,0,none⟩) (n2 - 1) c2) d1 D2):=by unfold Hid;simpa [decTo_zero] using hJ
  have g0:=hJ.hg0
  clear hJ
  go_wp2
  clear g0
  go_loopg [28] n1 (fun k s28 wq=>∃ i:Nat,k=n1 - i∧i≤n1∧s28=.int .i64 i∧WJ w wq b1 b2 w.heap.size (w.heap.size+1) (w.heap.size+2) (.slice (some ⟨b1,0,none⟩) n1 c1) (.slice (some ⟨b2,0,none⟩) (n2 - 1) c2) (decTo c d1 i) D2)
  case atStart=>exact ⟨0,rfl,Nat.zero_le _,rfl,by rw [decTo_zero];exact JA.out⟩
  case round =>
   obtain ⟨i,hk2,hi,rfl,hQ⟩:=hrel
   have JQ:Hid _:=hQ
   clear hQ
   by_cases hlt:i < n1
   ·obtain ⟨p1,p2⟩:=JQ.out.h1 i (by rw [decTo_size,HB.out.1];omega)
    rw [decTo_at _ _ _ (by rw [HB.out.1];omega)] at p1
    obtain ⟨x,hx⟩:∃ x,x=d1[i]!:=⟨_,rfl⟩
    rw [← hx] at p1
    rw [Nat.zero_add] at p1 p2
    have HX:Hid (x=d1[i]!):=hx
    clear hx
    have hlt':(i:Int) < (n1:Nat):=by omega
    by_cases hgt:(c:Int) < x
    ·have hgt':x > (c:Int):=hgt
     go_wp2
     go_roundg (n1 - (i+1))
     case measure=>omega
     case rel =>
      refine ⟨i+1,rfl,by omega,by simp,?_⟩
      rw [← decTo_succ _ _ _ (by rw [HB.out.1];omega),← HX.out,decI,if_pos hgt,sub_wrap]
      have h:=JQ.out.set1 hne (by omega) (by omega) (by omega) (i:=i) (by rw [decTo_size,HB.out.1];omega) (wrap64 (x - 1))
      rw [Nat.zero_add] at h
      exact h
    ·have hgt':¬ x > (c:Int):=hgt
     go_wp2
     go_roundg (n1 - (i+1))
     case measure=>omega
     case rel =>
      refine ⟨i+1,rfl,by omega,by simp,?_⟩
      have e:(decTo c d1 i).setIfInBounds i (decI c d1[i]!)=decTo c d1 i:=by
       rw [← HX.out,decI,if_neg (by omega),HX.out,← decTo_at c _ _ (by rw [HB.out.1];omega)]
       exact setI_same _ _
      rw [← decTo_succ _ _ _ (by rw [HB.out.1];omega),e]
      exact JQ.out
   ·obtain rfl:i=n1:=by omega
    go_wp2
    go_roundg (2 - 1)
    case measure=>omega
    case rel=>exact ⟨1,rfl,by omega,by simp,JQ.out⟩
 ·have JA:Hid (WJ w wr b1 b2 w.heap.size (w.heap.size+1) (w.heap.size+2) (.slice (some ⟨b1,0,none⟩) n1 c1) (.slice (some ⟨b2,0,none⟩) (n2 - 1) c2) (decTo c d1 n1) D2):=by unfold Hid;simpa [decTo_zero] using hJ
  have g1:=hJ.hg1
  clear hJ
  go_wp2
  clear g1
  go_loopg [28] (n2 - 1) (fun k s28 wq=>∃ i:Nat,k=(n2 - 1) - i∧i≤(n2 - 1)∧s28=.int .i64 i∧WJ w wq b1 b2 w.heap.size (w.heap.size+1) (w.heap.size+2) (.slice (some ⟨b1,0,none⟩) n1 c1) (.slice (some ⟨b2,0,none⟩) (n2 - 1) c2) (decTo c d1 n1) (decTo c D2 i))
  case atStart=>exact ⟨0,rfl,Nat.zero_le _,rfl,by rw [decTo_zero];exact JA.out⟩
  case round =>
   obtain ⟨i,hk2,hi,rfl,hQ⟩:=hrel
   have JQ:Hid _:=hQ
   clear hQ
   by_cases hlt:i < (n2 - 1)
   ·obtain ⟨p1,p2⟩:=JQ.out.h2 i (by rw [decTo_size,HD.out];omega)
    rw [decTo_at _ _ _ (by rw [HD.out];omega)] at p1
    obtain ⟨x,hx⟩:∃ x,x=D2[i]!:=⟨_,rfl⟩
    rw [← hx] at p1
    rw [Nat.zero_add] at p1 p2
    have HX:Hid (x=D2[i]!):=hx
    clear hx
    have hlt':(i:Int) < ((n2 - 1):Nat):=by omega
    by_cases hgt:(c:Int) < x
    ·have hgt':x > (c:Int):=hgt
     go_wp2
     go_roundg ((n2 - 1) - (i+1))
     case measure=>omega
     case rel =>
      refine ⟨i+1,rfl,by omega,by simp,?_⟩
      rw [← decTo_succ _ _ _ (by rw [HD.out];omega),← HX.out,decI,if_pos hgt,sub_wrap]
      have h:=JQ.out.swap hne (by omega) (by omega) (by omega) (i:=i) (by rw [decTo_size,HD.out];omega) (wrap64 (x - 1))
      rw [Nat.zero_add] at h
      exact h
    ·have hgt':¬ x > (c:Int):=hgt
     go_wp2
     go_roundg ((n2 - 1) - (i+1))
     case measure=>omega
     case rel =>
      refine ⟨i+1,rfl,by omega,by simp,?_⟩
      have e:(decTo c D2 i).setIfInBounds i (decI c D2[i]!)=decTo c D2 i:=by
       rw [← HX.out,decI,if_neg (by omega),HX.out,← decTo_at c _ _ (by rw [HD.out];omega)]
       exact setI_same _ _
      rw [← decTo_succ _ _ _ (by rw [HD.out];omega),e]
      exact JQ.out
   ·obtain rfl:i=(n2 - 1):=by omega
    go_wp2
    go_roundg (2 - 2)
    case measure=>omega
    case rel=>exact ⟨2,rfl,by omega,by simp,JQ.out⟩
 ·have JA:Hid (WJ w wr b1 b2 w.heap.size (w.heap.size+1) (w.heap.size+2) (.slice (some ⟨b1,0,none⟩) n1 c1) (.slice (some ⟨b2,0,none⟩) (n2 - 1) c2) (decTo c d1 n1) (decTo c D2 (n2 - 1))):=by unfold Hid;simpa using hJ
  have x0:=hJ.hh0
  have x1:=hJ.hh1
  obtain ⟨z0,z1,ty,hz⟩:=hJ.hr
  have y0:wr.cell? ⟨w.heap.size+1,0,none⟩=some z0:=(cellH hz).1
  have y1:wr.cell? ⟨w.heap.size+1,1,none⟩=some z1:=(cellH hz).1
  have f0:wr.frozen? ⟨w.heap.size+1,0,none⟩=false:=(cellH hz).2
  have f1:wr.frozen? ⟨w.heap.size+1,1,none⟩=false:=(cellH hz).2
  clear hJ hz
  go_wp2
  have hL:(d2.toList.take c ++ d2.toList.drop (c+1)).length=n2 - 1:=by
   have:=HB.out.2
   simp
   omega
  have hJ:=JA.out
  rw [← hL,← HB.out.1] at hJ
  obtain ⟨⟨ty2,hr⟩,hT⟩:=hJ.done HE.out (by omega) (by omega) (by omega)
  rw [hL,HB.out.1] at hr hT
  exact bodyPost_ret (results_cell_row (ty:=31) rfl _ _ (w.heap.size+1) ty2 #[.slice (some ⟨b1,0,none⟩) n1 c1,.slice (some ⟨b2,0,none⟩) (n2 - 1) c2] (0,0) _ rfl hr Tryz.underlying31 rfl (by kernel_rfl)) rfl ⟨rfl,hT⟩

def C143:List AV→Option AV:=specOS (X:=THeap × Int × Unit) fun x=>impl_Heap_without x.1 x.2.1
theorem C143_eq {h:THeap} {c:Int} {y} (e:impl_Heap_without h c=some y):C143 [av .own h,av .own c]=some (av .shr y):=specOS_eq (X:=THeap × Int × Unit) (F:=fun x=>impl_Heap_without x.1 x.2.1) (x:=(h,c,())) e
theorem po143:PO Tryz.prog 143 C143 :=
 po_without ⟨Tryz.f143,Tryz.func143,by kernel_rfl,by kernel_rfl⟩ fun xs ys c w b1 b2 c1 c2 h1 h2 h3 h4 h5 h6 h7 h8 h9 h10=>by
  have:=without143 xs.toArray ys.toArray xs.length ys.length c c1 c2 b1 b2 w (by simp) (by simp) h1 h2 h3 h4 h5 h6 h7 h8 h9 h10
  simpa using this

set_option maxHeartbeats 4000000 in
set_option maxRecDepth 1000000 in
theorem text110 (k:Int) (w:World):Calls Tryz.prog 110 #[.int .i64 k] w fun e w'=>e=.returned (.string (textF k))∧Below w.heap.size w w':=by
 obtain ⟨T,hT⟩:∃ T,T=textF k:=⟨_,rfl⟩
 rw [← hT]
 by_cases h0:k≤0
 ·have e:T=⟨#[109,48]⟩:=by rw [hT,textF,if_pos h0]
  subst e
  clear hT
  go_enter Tryz.func110,Tryz.ntmps110
  go_wp2
  go_ret
  exact ⟨rfl,Below.refl _ _⟩
 ·have HT:Hid (T=⟨#[109]⟩ ++ digsF 21 k ⟨#[]⟩):=by show T=_;rw [hT,textF,if_neg h0]
  clear hT
  go_enter Tryz.func110,Tryz.ntmps110
  go_wp2
  go_loopg [0,3] 21 (fun g s0 s3 wr=>∃ (x:Int) (out:ByteArray),s0=.int .i64 x∧s3=.string out∧Hid (T=⟨#[109]⟩ ++ digsF g x out∧1≤g∧out.size+g≤21∧(g=21∨x < 10 ^ (g - 1))∧Below w.heap.size w wr))
  case atStart=>exact ⟨k,_,rfl,rfl,HT,by omega,by decide,.inl rfl,Below.refl _ _⟩
  case round =>
   obtain ⟨x,out,rfl,rfl,hI⟩:=hrel
   have hsz:out.size≤21:=by have:=hI.2.2.1;omega
   by_cases hx:0 < x
   ·have hx':x > 0:=hx
    obtain ⟨g',rfl⟩:∃ g',gk=g' + 1:=⟨gk - 1,by have:=hI.2.1;omega⟩
    have hm:x.tmod 10=x % 10:=Int.tmod_eq_emod_of_nonneg (by omega)
    have hq:x.tdiv 10=x / 10:=Int.tdiv_eq_ediv_of_nonneg (by omega)
    have hconv:(convert 152 9 (.slice (some ⟨wr.heap.size,0,none⟩) 1 1)).run Tryz.prog (wr.alloc (.cells #[.int .u8 (48+x % 10)] 5))=.ok (.string (digC x)) (wr.alloc (.cells #[.int .u8 (48+x % 10)] 5)):=by
     have:=run_convert_bytes_arg (P:=Tryz.prog) (wr.alloc (.cells #[.int .u8 (48+x % 10)] 5)) 152 5 Tryz.underlying152 Tryz.underlying5 wr.heap.size 0 1 1 [48+x % 10] rfl (fun i hi=>by
      obtain rfl:i=0:=by omega
      simp) 9 Tryz.underlying9
     rw [this,digC,hm]
     rfl
    have HI:Hid _:=hI
    have hcat:(digC x ++ out).size=out.size+1:=by rw [ByteArray.size_append];show 1+out.size=_;omega
    have hbig:(digC x ++ out).size≤100:=by omega
    have hno:¬ (9223372036854775807 < (digC x).size+out.size):=by rw [ByteArray.size_append] at hcat;omega
    clear hI hm hbig
    go_wp2
    go_roundg g'
    case measure=>omega
    case rel =>
     obtain ⟨i1,i2,i3,i4,i5⟩:=HI.out
     refine ⟨_,_,rfl,rfl,?_,?_,?_,?_,i5.alloc i5.size _⟩
     ·rw [i1,digsF,if_pos hx,hq]
      show _ ++ digsF g' (IntKind.i64.wrap (x / 10)) _=_
      rw [Go.IntWalk.i64_left]
     ·rcases i4 with h | h
      ·omega
      ·rcases g' with _ | g'
       ·simp at h;omega
       ·omega
     ·rw [hcat];omega
     ·have hw:wrap64 (x / 10)≤x / 10:=by unfold wrap64;omega
      have hw2:wrap64 (x / 10) < 10000000000000000000:=by unfold wrap64;omega
      rcases i4 with h | h
      ·obtain rfl:g'=20:=by omega
       exact .inr (by simpa using hw2)
      ·rcases g' with _ | g'
       ·simp at h;omega
       ·right
        simp only [Nat.add_sub_cancel] at h ⊢
        rw [Int.pow_succ] at h
        omega
   ·have hx':¬ x > 0:=hx
    obtain ⟨g',rfl⟩:∃ g',gk=g' + 1:=⟨gk - 1,by have:=hI.2.1;omega⟩
    have e:digsF (g' + 1) x out=out:=by rw [digsF,if_neg hx]
    have hT:=hI.1
    rw [e] at hT
    have hB:Hid (Below w.heap.size w wr):=hI.2.2.2.2
    have HT2:Hid (T=⟨#[109]⟩ ++ out):=hT
    clear hI hT e
    go_wp2
    go_ret
    exact ⟨by rw [HT2.out];rfl,hB.out⟩

def C110:List AV→Option AV:=specP (X:=Int × Unit) fun x=>some (textF x.1)
theorem C110_k (k:Int):C110 [.one (.s (.int .i64 k))]=some (.one (.s (.string (textF k)))):=zai (X:=Int × Unit) (F:=fun x=>some (textF x.1)) (x:=(k,())) rfl
theorem pc110:PC Tryz.prog 110 C110:=pc_text textF ⟨Tryz.f110,Tryz.func110,by kernel_rfl,by kernel_rfl⟩ text110
end Go.Proofs


namespace Go.Proofs
open Go.Ev
open Enc (enc)
abbrev G60 (g:Cfg):Prop:=Has Tryz.prog g 60 Tryz.f60 [] [(2,rowKp)] [(110,C110)] []
set_option maxHeartbeats 4000000 in
set_option maxRecDepth 100000 in
theorem mk60 {g:Cfg} (G:G60 g):MkOK g 60 false mkF_markStringS:=by
 have gP:=G.P;have gt:=G.tk;have gr:=G.ro;have gg:=G.gh
 have c_110:=G.cs (110,C110) (by simp)
 refine mark_row_ok fun xs k d e r mem hx hd hT hR=>?_
 have hl:xs.length≤9223372036854775806:=by have:=hx.1;omega
 refine start_m (Tryz.f60.body.getD .skip) [.tmp 4] G Tryz.func60 (by kernel_rfl) (by simp [Tryz.ntmps60]) rfl ?_
 simp [Tryz.f60,gP,gt,gr,gg]
 refine goal_rows mkE_markStringS xs k d r mem (G.kp (2,rowKp) (by simp)) (by simp) (by simp) (by simp) hR (MemU.refl _ _ _) hl ?_ ?_ ?_
 ·intro i A B x k' σ' hx2 hi hi2 hA e0 e1 e5 R0 M0
  have hxl:=hx.2 x hx2
  have hlt:ltI (i:Int) (xs.length:Int)=true:=by simpa [ltI] using hi
  have hinc:addI (i:Int) 1=((i+1:Nat):Int):=addI_eq (by omega) (by omega)
  have R0:RowI σ'.mem d r (A ++ ((.sc (.string x)) :: B)):=R0
  have C0:=R0.1
  obtain ⟨P0,hP0⟩:∃ P:List D,P=A ++ []:=⟨_,rfl⟩
  have l0:P0.length=i:=by rw [hP0,List.length_append,hA];simp
  have q0:A ++ ((.sc (.string x)) :: B)=P0 ++ ((.sc (.string x)) :: (B)):=by rw [hP0,List.append_assoc];rfl
  obtain ⟨w1,R1,M1'⟩:=row_store (v':=.string (textF k')) q0 R0
  have q0':P0 ++ (.sc (.string (textF k')) :: (B))=A ++ ((.sc (.string (textF k'))) :: B):=by rw [hP0,List.append_assoc];rfl
  rw [q0'] at w1 R1 M1'
  rw [l0] at w1
  have M1:=M0.trans M1'
  have h0:i+1≤(bxL d r 0 (A ++ ((.sc (.string x)) :: B))).length:=by rw [bxL_length,q0,List.length_append,List.length_cons,l0];omega
  simp [gP,gt,gr,gg,e0,e1,e5,hlt,hinc,hi,c_110,C110_k,C0,w1,h0]
  exact ⟨_,rfl,by simp [e0],by simp [mkE_markStringS],by simp,R1,M1⟩
 ·intro z k' σ' e0 e1 e5
  have hlt:ltI (xs.length:Int) (xs.length:Int)=false:=by simp [ltI]
  simp [gP,gt,gr,gg,e0,e1,e5,hlt]
  exact ⟨_,rfl,by simp [e1],rfl⟩
 ·intro σ' e1 eR eM
  have hT2:memKill (fun k=>decide (e < k.1)) σ'.mem=σ'.mem:=eM.tight hd hT
  simp [gP,gt,gr,gg,e1,Goal,FnEndM,hT2]
  exact ⟨_,_,⟨rfl,rfl⟩,rfl,eM,eR⟩

abbrev G61 (g:Cfg):Prop:=Has Tryz.prog g 61 Tryz.f61 [] [(2,rowKp)] [(110,C110)] []
set_option maxHeartbeats 4000000 in
set_option maxRecDepth 100000 in
theorem mk61 {g:Cfg} (G:G61 g):MkOK g 61 false mkF_markEdgeS:=by
 have gP:=G.P;have gt:=G.tk;have gr:=G.ro;have gg:=G.gh
 have c_110:=G.cs (110,C110) (by simp)
 refine mark_row_ok fun xs k d e r mem hx hd hT hR=>?_
 have hl:xs.length≤9223372036854775806:=by have:=hx.1;omega
 refine start_m (Tryz.f61.body.getD .skip) [.tmp 4] G Tryz.func61 (by kernel_rfl) (by simp [Tryz.ntmps61]) rfl ?_
 simp [Tryz.f61,gP,gt,gr,gg]
 refine goal_rows mkE_markEdgeS xs k d r mem (G.kp (2,rowKp) (by simp)) (by simp) (by simp) (by simp) hR (MemU.refl _ _ _) hl ?_ ?_ ?_
 ·intro i A B x k' σ' hx2 hi hi2 hA e0 e1 e5 R0 M0
  have hxl:=hx.2 x hx2
  have hlt:ltI (i:Int) (xs.length:Int)=true:=by simpa [ltI] using hi
  have hinc:addI (i:Int) 1=((i+1:Nat):Int):=addI_eq (by omega) (by omega)
  have R0:RowI σ'.mem d r (A ++ ((.sc (.int .i64 x.from_)) :: (.sc (.int .i64 x.to_)) :: (.sc (.int .i64 x.stmt.kind)) :: (.sc (.string x.stmt.a)) :: (.sc (.string x.stmt.b)) :: B)):=R0
  have C0:=R0.1
  obtain ⟨P0,hP0⟩:∃ P:List D,P=A ++ []:=⟨_,rfl⟩
  have l0:P0.length=i * 5:=by rw [hP0,List.length_append,hA];simp
  have q0:A ++ ((.sc (.int .i64 x.from_)) :: (.sc (.int .i64 x.to_)) :: (.sc (.int .i64 x.stmt.kind)) :: (.sc (.string x.stmt.a)) :: (.sc (.string x.stmt.b)) :: B)=P0 ++ ((.sc (.int .i64 x.from_)) :: ((.sc (.int .i64 x.to_)) :: (.sc (.int .i64 x.stmt.kind)) :: (.sc (.string x.stmt.a)) :: (.sc (.string x.stmt.b)) :: B)):=by rw [hP0,List.append_assoc];rfl
  obtain ⟨w1,R1,M1'⟩:=row_store (v':=.int .i64 k') q0 R0
  have q0':P0 ++ (.sc (.int .i64 k') :: ((.sc (.int .i64 x.to_)) :: (.sc (.int .i64 x.stmt.kind)) :: (.sc (.string x.stmt.a)) :: (.sc (.string x.stmt.b)) :: B))=A ++ ((.sc (.int .i64 k')) :: (.sc (.int .i64 x.to_)) :: (.sc (.int .i64 x.stmt.kind)) :: (.sc (.string x.stmt.a)) :: (.sc (.string x.stmt.b)) :: B):=by rw [hP0,List.append_assoc];rfl
  rw [q0'] at w1 R1 M1'
  rw [l0] at w1
  have M1:=M0.trans M1'
  have h0:i * 5+1≤(bxL d r 0 (A ++ ((.sc (.int .i64 x.from_)) :: (.sc (.int .i64 x.to_)) :: (.sc (.int .i64 x.stmt.kind)) :: (.sc (.string x.stmt.a)) :: (.sc (.string x.stmt.b)) :: B))).length:=by rw [bxL_length,q0,List.length_append,List.length_cons,l0];omega
  obtain ⟨P1,hP1⟩:∃ P:List D,P=A ++ [.sc (.int .i64 k')]:=⟨_,rfl⟩
  have l1:P1.length=i * 5+1:=by rw [hP1,List.length_append,hA];simp
  have q1:A ++ ((.sc (.int .i64 k')) :: (.sc (.int .i64 x.to_)) :: (.sc (.int .i64 x.stmt.kind)) :: (.sc (.string x.stmt.a)) :: (.sc (.string x.stmt.b)) :: B)=P1 ++ ((.sc (.int .i64 x.to_)) :: ((.sc (.int .i64 x.stmt.kind)) :: (.sc (.string x.stmt.a)) :: (.sc (.string x.stmt.b)) :: B)):=by rw [hP1,List.append_assoc];rfl
  obtain ⟨w2,R2,M2'⟩:=row_store (v':=.int .i64 (addI k' 1)) q1 R1
  have q1':P1 ++ (.sc (.int .i64 (addI k' 1)) :: ((.sc (.int .i64 x.stmt.kind)) :: (.sc (.string x.stmt.a)) :: (.sc (.string x.stmt.b)) :: B))=A ++ ((.sc (.int .i64 k')) :: (.sc (.int .i64 (addI k' 1))) :: (.sc (.int .i64 x.stmt.kind)) :: (.sc (.string x.stmt.a)) :: (.sc (.string x.stmt.b)) :: B):=by rw [hP1,List.append_assoc];rfl
  rw [q1'] at w2 R2 M2'
  rw [l1] at w2
  have M2:=M1.trans M2'
  have h1:i * 5+1+1≤(bxL d r 0 (A ++ ((.sc (.int .i64 k')) :: (.sc (.int .i64 x.to_)) :: (.sc (.int .i64 x.stmt.kind)) :: (.sc (.string x.stmt.a)) :: (.sc (.string x.stmt.b)) :: B))).length:=by rw [bxL_length,q1,List.length_append,List.length_cons,l1];omega
  obtain ⟨P2,hP2⟩:∃ P:List D,P=A ++ [.sc (.int .i64 k'),.sc (.int .i64 (addI k' 1))]:=⟨_,rfl⟩
  have l2:P2.length=i * 5+2:=by rw [hP2,List.length_append,hA];simp
  have q2:A ++ ((.sc (.int .i64 k')) :: (.sc (.int .i64 (addI k' 1))) :: (.sc (.int .i64 x.stmt.kind)) :: (.sc (.string x.stmt.a)) :: (.sc (.string x.stmt.b)) :: B)=P2 ++ ((.sc (.int .i64 x.stmt.kind)) :: ((.sc (.string x.stmt.a)) :: (.sc (.string x.stmt.b)) :: B)):=by rw [hP2,List.append_assoc];rfl
  obtain ⟨w3,R3,M3'⟩:=row_store (v':=.int .i64 (addI (addI k' 1) 1)) q2 R2
  have q2':P2 ++ (.sc (.int .i64 (addI (addI k' 1) 1)) :: ((.sc (.string x.stmt.a)) :: (.sc (.string x.stmt.b)) :: B))=A ++ ((.sc (.int .i64 k')) :: (.sc (.int .i64 (addI k' 1))) :: (.sc (.int .i64 (addI (addI k' 1) 1))) :: (.sc (.string x.stmt.a)) :: (.sc (.string x.stmt.b)) :: B):=by rw [hP2,List.append_assoc];rfl
  rw [q2'] at w3 R3 M3'
  rw [l2] at w3
  have M3:=M2.trans M3'
  have h2:i * 5+2+1≤(bxL d r 0 (A ++ ((.sc (.int .i64 k')) :: (.sc (.int .i64 (addI k' 1))) :: (.sc (.int .i64 x.stmt.kind)) :: (.sc (.string x.stmt.a)) :: (.sc (.string x.stmt.b)) :: B))).length:=by rw [bxL_length,q2,List.length_append,List.length_cons,l2];omega
  obtain ⟨P3,hP3⟩:∃ P:List D,P=A ++ [.sc (.int .i64 k'),.sc (.int .i64 (addI k' 1)),.sc (.int .i64 (addI (addI k' 1) 1))]:=⟨_,rfl⟩
  have l3:P3.length=i * 5+3:=by rw [hP3,List.length_append,hA];simp
  have q3:A ++ ((.sc (.int .i64 k')) :: (.sc (.int .i64 (addI k' 1))) :: (.sc (.int .i64 (addI (addI k' 1) 1))) :: (.sc (.string x.stmt.a)) :: (.sc (.string x.stmt.b)) :: B)=P3 ++ ((.sc (.string x.stmt.a)) :: ((.sc (.string x.stmt.b)) :: B)):=by rw [hP3,List.append_assoc];rfl
  obtain ⟨w4,R4,M4'⟩:=row_store (v':=.string (textF (addI (addI (addI k' 1) 1) 1))) q3 R3
  have q3':P3 ++ (.sc (.string (textF (addI (addI (addI k' 1) 1) 1))) :: ((.sc (.string x.stmt.b)) :: B))=A ++ ((.sc (.int .i64 k')) :: (.sc (.int .i64 (addI k' 1))) :: (.sc (.int .i64 (addI (addI k' 1) 1))) :: (.sc (.string (textF (addI (addI (addI k' 1) 1) 1)))) :: (.sc (.string x.stmt.b)) :: B):=by rw [hP3,List.append_assoc];rfl
  rw [q3'] at w4 R4 M4'
  rw [l3] at w4
  have M4:=M3.trans M4'
  have h3:i * 5+3+1≤(bxL d r 0 (A ++ ((.sc (.int .i64 k')) :: (.sc (.int .i64 (addI k' 1))) :: (.sc (.int .i64 (addI (addI k' 1) 1))) :: (.sc (.string x.stmt.a)) :: (.sc (.string x.stmt.b)) :: B))).length:=by rw [bxL_length,q3,List.length_append,List.length_cons,l3];omega
  obtain ⟨P4,hP4⟩:∃ P:List D,P=A ++ [.sc (.int .i64 k'),.sc (.int .i64 (addI k' 1)),.sc (.int .i64 (addI (addI k' 1) 1)),.sc (.string (textF (addI (addI (addI k' 1) 1) 1)))]:=⟨_,rfl⟩
  have l4:P4.length=i * 5+4:=by rw [hP4,List.length_append,hA];simp
  have q4:A ++ ((.sc (.int .i64 k')) :: (.sc (.int .i64 (addI k' 1))) :: (.sc (.int .i64 (addI (addI k' 1) 1))) :: (.sc (.string (textF (addI (addI (addI k' 1) 1) 1)))) :: (.sc (.string x.stmt.b)) :: B)=P4 ++ ((.sc (.string x.stmt.b)) :: (B)):=by rw [hP4,List.append_assoc];rfl
  obtain ⟨w5,R5,M5'⟩:=row_store (v':=.string (textF (addI (addI (addI (addI k' 1) 1) 1) 1))) q4 R4
  have q4':P4 ++ (.sc (.string (textF (addI (addI (addI (addI k' 1) 1) 1) 1))) :: (B))=A ++ ((.sc (.int .i64 k')) :: (.sc (.int .i64 (addI k' 1))) :: (.sc (.int .i64 (addI (addI k' 1) 1))) :: (.sc (.string (textF (addI (addI (addI k' 1) 1) 1)))) :: (.sc (.string (textF (addI (addI (addI (addI k' 1) 1) 1) 1)))) :: B):=by rw [hP4,List.append_assoc];rfl
  rw [q4'] at w5 R5 M5'
  rw [l4] at w5
  have M5:=M4.trans M5'
  have h4:i * 5+4+1≤(bxL d r 0 (A ++ ((.sc (.int .i64 k')) :: (.sc (.int .i64 (addI k' 1))) :: (.sc (.int .i64 (addI (addI k' 1) 1))) :: (.sc (.string (textF (addI (addI (addI k' 1) 1) 1)))) :: (.sc (.string x.stmt.b)) :: B))).length:=by rw [bxL_length,q4,List.length_append,List.length_cons,l4];omega
  simp [gP,gt,gr,gg,e0,e1,e5,hlt,hinc,hi,c_110,C110_k,C0,w1,h0,w2,h1,w3,h2,w4,h3,w5,h4]
  exact ⟨_,rfl,by simp [e0],by simp [mkE_markEdgeS],by simp,R5,M5⟩
 ·intro z k' σ' e0 e1 e5
  have hlt:ltI (xs.length:Int) (xs.length:Int)=false:=by simp [ltI]
  simp [gP,gt,gr,gg,e0,e1,e5,hlt]
  exact ⟨_,rfl,by simp [e1],rfl⟩
 ·intro σ' e1 eR eM
  have hT2:memKill (fun k=>decide (e < k.1)) σ'.mem=σ'.mem:=eM.tight hd hT
  simp [gP,gt,gr,gg,e1,Goal,FnEndM,hT2]
  exact ⟨_,_,⟨rfl,rfl⟩,rfl,eM,eR⟩

abbrev G19 (g:Cfg):Prop:=Has Tryz.prog g 19 Tryz.f19 [] [] [] []
set_option maxHeartbeats 4000000 in
set_option maxRecDepth 100000 in
theorem mk19 {g:Cfg} (G:G19 g) (G_60:G60 g) (G_61:G61 g):MkOK g 19 true mkF_markProgram:=by
 have gP:=G.P;have gt:=G.tk;have gr:=G.ro;have gg:=G.gh
 have i_60:=G_60.no
 have i_61:=G_61.no
 intro x k hx
 have h0:=mk60 G_60 x.vars k hx.1
 have h1:=mk61 G_61 x.edges ((mkF_markStringS x.vars k).2) hx.2
 have eX:enc x=[.sl x.vars.length (encL x.vars),.sc (.int .i64 x.points),.sl x.edges.length (encL x.edges)]:=rfl
 have eY:enc (mkF_markProgram x k).1=[.sl ((mkF_markStringS x.vars k).1).length (encL ((mkF_markStringS x.vars k).1)),.sc (.int .i64 x.points),.sl ((mkF_markEdgeS x.edges ((mkF_markStringS x.vars k).2)).1).length (encL ((mkF_markEdgeS x.edges ((mkF_markStringS x.vars k).2)).1))]:=rfl
 refine ⟨fun d p i=>?_,fun d e p i mem hd hT hs=>?_⟩
 ·rw [eX,eY]
  simp only [bxL]
  have e0:=h0.1 d p (i)
  have e1:=h1.1 d p (i+2)
  simp only [enc_list,bxL,List.cons.injEq,and_true,List.cons_append,List.nil_append] at e0 e1
  rw [e0,e1]
 ·have n0:mem (e+1,2)=none:=hT.none (by simp)
  rw [eX] at hs ⊢
  rw [eY]
  have ha:avC true (bxL d p i [.sl x.vars.length (encL x.vars),.sc (.int .i64 x.points),.sl x.edges.length (encL x.edges)])=.ag [.bs (d,pk (p ++ [i])) x.vars.length (szD x.vars.length (encL x.vars)),.s (.int .i64 x.points),.bs (d,pk (p ++ [i+2])) x.edges.length (szD x.edges.length (encL x.edges))]:=rfl
  rw [ha]
  suffices hh:∃ R m,callo g e 19 [.ag [.bs (d,pk (p ++ [i])) x.vars.length (szD x.vars.length (encL x.vars)),.s (.int .i64 x.points),.bs (d,pk (p ++ [i+2])) x.edges.length (szD x.edges.length (encL x.edges))],.one (.s (.int .i64 k))] mem=some (R,m)∧R=.one (.s (.int .i64 (mkF_markProgram x k).2))∧MemR mem m d p i 3∧subL m d p i [.sl ((mkF_markStringS x.vars k).1).length (encL ((mkF_markStringS x.vars k).1)),.sc (.int .i64 x.points),.sl ((mkF_markEdgeS x.edges ((mkF_markStringS x.vars k).2)).1).length (encL ((mkF_markEdgeS x.edges ((mkF_markStringS x.vars k).2)).1))] by
   obtain ⟨R,m,hc,rfl,hr⟩:=hh
   exact ⟨m,hc,hr⟩
  refine start_m (Tryz.f19.body.getD .skip) [.tmp 4] G Tryz.func19 (by kernel_rfl) (by simp [Tryz.ntmps19]) rfl ?_
  simp [Tryz.f19,gP,gt,gr,gg,n0,i_60,i_61]
  have S0:subL (upd mem (e+1,2) (some [.bs (d,pk (p ++ [i])) x.vars.length (szD x.vars.length (encL x.vars)),.s (.int .i64 x.points),.bs (d,pk (p ++ [i+2])) x.edges.length (szD x.edges.length (encL x.edges))])) d p i [.sl x.vars.length (encL x.vars),.sc (.int .i64 x.points),.sl x.edges.length (encL x.edges)]:=subL_congr (fun j q _=>by rw [upd_get,if_neg (by intro hh;have:=(Prod.mk.inj hh).1;omega)]) hs
  have T0:Tight (e+1) (upd mem (e+1,2) (some [.bs (d,pk (p ++ [i])) x.vars.length (szD x.vars.length (encL x.vars)),.s (.int .i64 x.points),.bs (d,pk (p ++ [i+2])) x.edges.length (szD x.edges.length (encL x.edges))])):=hT.up.upd (by simp) (by simp;omega)
  have M0:MemR (upd mem (e+1,2) (some [.bs (d,pk (p ++ [i])) x.vars.length (szD x.vars.length (encL x.vars)),.s (.int .i64 x.points),.bs (d,pk (p ++ [i+2])) x.edges.length (szD x.edges.length (encL x.edges))])) (upd mem (e+1,2) (some [.bs (d,pk (p ++ [i])) x.vars.length (szD x.vars.length (encL x.vars)),.s (.int .i64 x.points),.bs (d,pk (p ++ [i+2])) x.edges.length (szD x.edges.length (encL x.edges))])) d p i 3:=MemR.refl _ _ _ _ _
  obtain ⟨m1,hc1,S1,M1'⟩:=struct_mark (pre:=[]) h0 rfl (show d≤e+1 by omega) T0 S0
  refine goal_callM _ _ rfl hc1 ?_
  have M1:=M0.trans M1'
  have T1:Tight (e+1) m1:=M1.tight (show d≤e+1 by omega) T0
  have b1:m1 (e+1,2)=some [.bs (d,pk (p ++ [i])) x.vars.length (szD x.vars.length (encL x.vars)),.s (.int .i64 x.points),.bs (d,pk (p ++ [i+2])) x.edges.length (szD x.edges.length (encL x.edges))]:=by rw [M1.far _ (fun j q _ _ hh=>by have:=(Prod.mk.inj hh).1;omega),upd_get,if_pos rfl]
  simp [gP,gt,gr,gg,b1,i_60,i_61]
  obtain ⟨m2,hc2,S2,M2'⟩:=struct_mark (pre:=[.sl ((mkF_markStringS x.vars k).1).length (encL ((mkF_markStringS x.vars k).1)),.sc (.int .i64 x.points)]) h1 rfl (show d≤e+1 by omega) T1 S1
  refine goal_callM _ _ rfl hc2 ?_
  have M2:=M1.trans M2'
  have T2:Tight (e+1) m2:=M2.tight (show d≤e+1 by omega) T0
  have b2:m2 (e+1,2)=some [.bs (d,pk (p ++ [i])) x.vars.length (szD x.vars.length (encL x.vars)),.s (.int .i64 x.points),.bs (d,pk (p ++ [i+2])) x.edges.length (szD x.edges.length (encL x.edges))]:=by rw [M2.far _ (fun j q _ _ hh=>by have:=(Prod.mk.inj hh).1;omega),upd_get,if_pos rfl]
  simp [gP,gt,gr,gg,b2,i_60,i_61,Goal,FnEndM]
  exact ⟨_,_,⟨rfl,rfl⟩,rfl,byval_end hd hT (cs:=[.sl x.vars.length (encL x.vars),.sc (.int .i64 x.points),.sl x.edges.length (encL x.edges)]) (i0:=i) M2 S2⟩

abbrev G21 (g:Cfg):Prop:=Has Tryz.prog g 21 Tryz.f21 [] [(2,rowKp)] [] []
set_option maxHeartbeats 4000000 in
set_option maxRecDepth 100000 in
theorem mk21 {g:Cfg} (G:G21 g):MkOK g 21 false zaf:=by
 have gP:=G.P;have gt:=G.tk;have gr:=G.ro;have gg:=G.gh
 refine mark_row_ok fun xs k d e r mem hx hd hT hR=>?_
 have hl:xs.length≤9223372036854775806:=by have:=hx.1;omega
 refine start_m (Tryz.f21.body.getD .skip) [.tmp 4] G Tryz.func21 (by kernel_rfl) (by simp [Tryz.ntmps21]) rfl ?_
 simp [Tryz.f21,gP,gt,gr,gg]
 refine goal_rows mkE_markIntS xs k d r mem (G.kp (2,rowKp) (by simp)) (by simp) (by simp) (by simp) hR (MemU.refl _ _ _) hl ?_ ?_ ?_
 ·intro i A B x k' σ' hx2 hi hi2 hA e0 e1 e5 R0 M0
  have hxl:=hx.2 x hx2
  have hlt:ltI (i:Int) (xs.length:Int)=true:=by simpa [ltI] using hi
  have hinc:addI (i:Int) 1=((i+1:Nat):Int):=addI_eq (by omega) (by omega)
  have R0:RowI σ'.mem d r (A ++ ((.sc (.int .i64 x)) :: B)):=R0
  have C0:=R0.1
  obtain ⟨P0,hP0⟩:∃ P:List D,P=A ++ []:=⟨_,rfl⟩
  have l0:P0.length=i:=by rw [hP0,List.length_append,hA];simp
  have q0:A ++ ((.sc (.int .i64 x)) :: B)=P0 ++ ((.sc (.int .i64 x)) :: (B)):=by rw [hP0,List.append_assoc];rfl
  obtain ⟨w1,R1,M1'⟩:=row_store (v':=.int .i64 k') q0 R0
  have q0':P0 ++ (.sc (.int .i64 k') :: (B))=A ++ ((.sc (.int .i64 k')) :: B):=by rw [hP0,List.append_assoc];rfl
  rw [q0'] at w1 R1 M1'
  rw [l0] at w1
  have M1:=M0.trans M1'
  have h0:i+1≤(bxL d r 0 (A ++ ((.sc (.int .i64 x)) :: B))).length:=by rw [bxL_length,q0,List.length_append,List.length_cons,l0];omega
  simp [gP,gt,gr,gg,e0,e1,e5,hlt,hinc,hi,C0,w1,h0]
  exact ⟨_,rfl,by simp [e0],by simp [mkE_markIntS],by simp,R1,M1⟩
 ·intro z k' σ' e0 e1 e5
  have hlt:ltI (xs.length:Int) (xs.length:Int)=false:=by simp [ltI]
  simp [gP,gt,gr,gg,e0,e1,e5,hlt]
  exact ⟨_,rfl,by simp [e1],rfl⟩
 ·intro σ' e1 eR eM
  have hT2:memKill (fun k=>decide (e < k.1)) σ'.mem=σ'.mem:=eM.tight hd hT
  simp [gP,gt,gr,gg,e1,Goal,FnEndM,hT2]
  exact ⟨_,_,⟨rfl,rfl⟩,rfl,eM,eR⟩

abbrev G32 (g:Cfg):Prop:=Has Tryz.prog g 32 Tryz.f32 [] [(2,rowKp)] [] []
set_option maxHeartbeats 4000000 in
set_option maxRecDepth 100000 in
theorem mk32 {g:Cfg} (G:G32 g) (G_21:G21 g):MkOK g 32 false mkF_markHeapS:=by
 have gP:=G.P;have gt:=G.tk;have gr:=G.ro;have gg:=G.gh
 have i_21:=G_21.no
 refine mark_row_ok fun xs k d e r mem hx hd hT hR=>?_
 have hl:xs.length≤9223372036854775806:=by have:=hx.1;omega
 refine start_m (Tryz.f32.body.getD .skip) [.tmp 4] G Tryz.func32 (by kernel_rfl) (by simp [Tryz.ntmps32]) rfl ?_
 simp [Tryz.f32,gP,gt,gr,gg]
 refine goal_rows mkE_markHeapS xs k d r mem (G.kp (2,rowKp) (by simp)) (by simp) (by simp) (by simp) hR (MemU.refl _ _ _) hl ?_ ?_ ?_
 ·intro i A B x k' σ' hx2 hi hi2 hA e0 e1 e5 R0 M0
  have hxl:=hx.2 x hx2
  have hlt:ltI (i:Int) (xs.length:Int)=true:=by simpa [ltI] using hi
  have hinc:addI (i:Int) 1=((i+1:Nat):Int):=addI_eq (by omega) (by omega)
  have R0:RowI σ'.mem d r (A ++ ((.sl x.vars.length (encL x.vars)) :: (.sl x.next.length (encL x.next)) :: B)):=R0
  have C0:=R0.1
  obtain ⟨P0,hP0⟩:∃ P:List D,P=A ++ []:=⟨_,rfl⟩
  have l0:P0.length=i * 2:=by rw [hP0,List.length_append,hA];simp
  have q0:A ++ ((.sl x.vars.length (encL x.vars)) :: (.sl x.next.length (encL x.next)) :: B)=P0 ++ ((.sl x.vars.length (encL x.vars)) :: ((.sl x.next.length (encL x.next)) :: B)):=by rw [hP0,List.append_assoc];rfl
  have s0:=seg_bx (d:=d) (r:=r) q0 l0
  simp only [bxC] at s0
  simp [gP,gt,gr,gg,e0,e1,e5,hlt,hinc,hi,i_21,C0,s0]
  obtain ⟨m1,hc1,R1,M1'⟩:=row_mark (mk21 G_21 x.vars k' hxl.1) q0 (show d≤e+1 by omega) (M0.tight hd hT).up R0
  refine goal_callM _ _ rfl hc1 ?_
  have R1:RowI m1 d r (A ++ ((.sl ((zaf x.vars k').1).length (encL ((zaf x.vars k').1))) :: (.sl x.next.length (encL x.next)) :: B)):=by rw [hP0,List.append_assoc] at R1;exact R1
  have M1:=M0.trans M1'
  have C1:=R1.1
  obtain ⟨P1,hP1⟩:∃ P:List D,P=A ++ [.sl ((zaf x.vars k').1).length (encL ((zaf x.vars k').1))]:=⟨_,rfl⟩
  have l1:P1.length=i * 2+1:=by rw [hP1,List.length_append,hA];simp
  have q1:A ++ ((.sl ((zaf x.vars k').1).length (encL ((zaf x.vars k').1))) :: (.sl x.next.length (encL x.next)) :: B)=P1 ++ ((.sl x.next.length (encL x.next)) :: (B)):=by rw [hP1,List.append_assoc];rfl
  have s1:=seg_bx (d:=d) (r:=r) q1 l1
  simp only [bxC] at s1
  simp [gP,gt,gr,gg,e0,e1,e5,hlt,hinc,hi,i_21,C1,s1]
  obtain ⟨m2,hc2,R2,M2'⟩:=row_mark (mk21 G_21 x.next ((zaf x.vars k').2) hxl.2) q1 (show d≤e+1 by omega) (M1.tight hd hT).up R1
  refine goal_callM _ _ rfl hc2 ?_
  have R2:RowI m2 d r (A ++ ((.sl ((zaf x.vars k').1).length (encL ((zaf x.vars k').1))) :: (.sl ((zaf x.next ((zaf x.vars k').2)).1).length (encL ((zaf x.next ((zaf x.vars k').2)).1))) :: B)):=by rw [hP1,List.append_assoc] at R2;exact R2
  have M2:=M1.trans M2'
  have C2:=R2.1
  simp [gP,gt,gr,gg,e0,e1,e5,hlt,hinc,hi,i_21,C2]
  exact ⟨_,rfl,by simp [e0],by simp [mkE_markHeapS],by simp,R2,M2⟩
 ·intro z k' σ' e0 e1 e5
  have hlt:ltI (xs.length:Int) (xs.length:Int)=false:=by simp [ltI]
  simp [gP,gt,gr,gg,e0,e1,e5,hlt]
  exact ⟨_,rfl,by simp [e1],rfl⟩
 ·intro σ' e1 eR eM
  have hT2:memKill (fun k=>decide (e < k.1)) σ'.mem=σ'.mem:=eM.tight hd hT
  simp [gP,gt,gr,gg,e1,Goal,FnEndM,hT2]
  exact ⟨_,_,⟨rfl,rfl⟩,rfl,eM,eR⟩

abbrev G20 (g:Cfg):Prop:=Has Tryz.prog g 20 Tryz.f20 [] [] [] []
set_option maxHeartbeats 4000000 in
set_option maxRecDepth 100000 in
theorem mk20 {g:Cfg} (G:G20 g) (G_21:G21 g):MkOK g 20 true zan:=by
 have gP:=G.P;have gt:=G.tk;have gr:=G.ro;have gg:=G.gh
 have i_21:=G_21.no
 intro x k hx
 have h0:=mk21 G_21 x.vars k hx.1
 have h1:=mk21 G_21 x.next ((zaf x.vars k).2) hx.2
 have eX:enc x=[.sl x.vars.length (encL x.vars),.sl x.next.length (encL x.next)]:=rfl
 have eY:enc (zan x k).1=[.sl ((zaf x.vars k).1).length (encL ((zaf x.vars k).1)),.sl ((zaf x.next ((zaf x.vars k).2)).1).length (encL ((zaf x.next ((zaf x.vars k).2)).1))]:=rfl
 refine ⟨fun d p i=>?_,fun d e p i mem hd hT hs=>?_⟩
 ·rw [eX,eY]
  simp only [bxL]
  have e0:=h0.1 d p (i)
  have e1:=h1.1 d p (i+1)
  simp only [enc_list,bxL,List.cons.injEq,and_true,List.cons_append,List.nil_append] at e0 e1
  rw [e0,e1]
 ·have n0:mem (e+1,2)=none:=hT.none (by simp)
  rw [eX] at hs ⊢
  rw [eY]
  have ha:avC true (bxL d p i [.sl x.vars.length (encL x.vars),.sl x.next.length (encL x.next)])=.ag [.bs (d,pk (p ++ [i])) x.vars.length (szD x.vars.length (encL x.vars)),.bs (d,pk (p ++ [i+1])) x.next.length (szD x.next.length (encL x.next))]:=rfl
  rw [ha]
  suffices hh:∃ R m,callo g e 20 [.ag [.bs (d,pk (p ++ [i])) x.vars.length (szD x.vars.length (encL x.vars)),.bs (d,pk (p ++ [i+1])) x.next.length (szD x.next.length (encL x.next))],.one (.s (.int .i64 k))] mem=some (R,m)∧R=.one (.s (.int .i64 (zan x k).2))∧MemR mem m d p i 2∧subL m d p i [.sl ((zaf x.vars k).1).length (encL ((zaf x.vars k).1)),.sl ((zaf x.next ((zaf x.vars k).2)).1).length (encL ((zaf x.next ((zaf x.vars k).2)).1))] by
   obtain ⟨R,m,hc,rfl,hr⟩:=hh
   exact ⟨m,hc,hr⟩
  refine start_m (Tryz.f20.body.getD .skip) [.tmp 4] G Tryz.func20 (by kernel_rfl) (by simp [Tryz.ntmps20]) rfl ?_
  simp [Tryz.f20,gP,gt,gr,gg,n0,i_21]
  have S0:subL (upd mem (e+1,2) (some [.bs (d,pk (p ++ [i])) x.vars.length (szD x.vars.length (encL x.vars)),.bs (d,pk (p ++ [i+1])) x.next.length (szD x.next.length (encL x.next))])) d p i [.sl x.vars.length (encL x.vars),.sl x.next.length (encL x.next)]:=subL_congr (fun j q _=>by rw [upd_get,if_neg (by intro hh;have:=(Prod.mk.inj hh).1;omega)]) hs
  have T0:Tight (e+1) (upd mem (e+1,2) (some [.bs (d,pk (p ++ [i])) x.vars.length (szD x.vars.length (encL x.vars)),.bs (d,pk (p ++ [i+1])) x.next.length (szD x.next.length (encL x.next))])):=hT.up.upd (by simp) (by simp;omega)
  have M0:MemR (upd mem (e+1,2) (some [.bs (d,pk (p ++ [i])) x.vars.length (szD x.vars.length (encL x.vars)),.bs (d,pk (p ++ [i+1])) x.next.length (szD x.next.length (encL x.next))])) (upd mem (e+1,2) (some [.bs (d,pk (p ++ [i])) x.vars.length (szD x.vars.length (encL x.vars)),.bs (d,pk (p ++ [i+1])) x.next.length (szD x.next.length (encL x.next))])) d p i 2:=MemR.refl _ _ _ _ _
  obtain ⟨m1,hc1,S1,M1'⟩:=struct_mark (pre:=[]) h0 rfl (show d≤e+1 by omega) T0 S0
  refine goal_callM _ _ rfl hc1 ?_
  have M1:=M0.trans M1'
  have T1:Tight (e+1) m1:=M1.tight (show d≤e+1 by omega) T0
  have b1:m1 (e+1,2)=some [.bs (d,pk (p ++ [i])) x.vars.length (szD x.vars.length (encL x.vars)),.bs (d,pk (p ++ [i+1])) x.next.length (szD x.next.length (encL x.next))]:=by rw [M1.far _ (fun j q _ _ hh=>by have:=(Prod.mk.inj hh).1;omega),upd_get,if_pos rfl]
  simp [gP,gt,gr,gg,b1,i_21]
  obtain ⟨m2,hc2,S2,M2'⟩:=struct_mark (pre:=[.sl ((zaf x.vars k).1).length (encL ((zaf x.vars k).1))]) h1 rfl (show d≤e+1 by omega) T1 S1
  refine goal_callM _ _ rfl hc2 ?_
  have M2:=M1.trans M2'
  have T2:Tight (e+1) m2:=M2.tight (show d≤e+1 by omega) T0
  have b2:m2 (e+1,2)=some [.bs (d,pk (p ++ [i])) x.vars.length (szD x.vars.length (encL x.vars)),.bs (d,pk (p ++ [i+1])) x.next.length (szD x.next.length (encL x.next))]:=by rw [M2.far _ (fun j q _ _ hh=>by have:=(Prod.mk.inj hh).1;omega),upd_get,if_pos rfl]
  simp [gP,gt,gr,gg,b2,i_21,Goal,FnEndM]
  exact ⟨_,_,⟨rfl,rfl⟩,rfl,byval_end hd hT (cs:=[.sl x.vars.length (encL x.vars),.sl x.next.length (encL x.next)]) (i0:=i) M2 S2⟩

abbrev G38 (g:Cfg):Prop:=Has Tryz.prog g 38 Tryz.f38 [] [] [] []
set_option maxHeartbeats 4000000 in
set_option maxRecDepth 100000 in
theorem mk38 {g:Cfg} (G:G38 g) (G_20:G20 g) (G_21:G21 g):MkOK g 38 true mkF_markFailure:=by
 have gP:=G.P;have gt:=G.tk;have gr:=G.ro;have gg:=G.gh
 have i_20:=G_20.no
 have i_21:=G_21.no
 intro x k hx
 have h0:=mk20 G_20 G_21 x.heap k hx.1
 have h1:=mk21 G_21 x.edges ((zan x.heap k).2) hx.2
 have eX:enc x=[.sl x.heap.vars.length (encL x.heap.vars),.sl x.heap.next.length (encL x.heap.next),.sl x.edges.length (encL x.edges),.sc (.int .i64 x.code)]:=rfl
 have eY:enc (mkF_markFailure x k).1=[.sl ((zan x.heap k).1.vars).length (encL ((zan x.heap k).1.vars)),.sl ((zan x.heap k).1.next).length (encL ((zan x.heap k).1.next)),.sl ((zaf x.edges ((zan x.heap k).2)).1).length (encL ((zaf x.edges ((zan x.heap k).2)).1)),.sc (.int .i64 x.code)]:=rfl
 refine ⟨fun d p i=>?_,fun d e p i mem hd hT hs=>?_⟩
 ·rw [eX,eY]
  simp only [bxL]
  have e0:=h0.1 d p (i)
  have e1:=h1.1 d p (i+2)
  simp only [enc_list,bxL,List.cons.injEq,and_true,enc_THeap,List.cons_append,List.nil_append] at e0 e1
  simp only [Nat.add_assoc] at *
  simp_all
 ·have n0:mem (e+1,2)=none:=hT.none (by simp)
  rw [eX] at hs ⊢
  rw [eY]
  have ha:avC true (bxL d p i [.sl x.heap.vars.length (encL x.heap.vars),.sl x.heap.next.length (encL x.heap.next),.sl x.edges.length (encL x.edges),.sc (.int .i64 x.code)])=.ag [.bs (d,pk (p ++ [i])) x.heap.vars.length (szD x.heap.vars.length (encL x.heap.vars)),.bs (d,pk (p ++ [i+1])) x.heap.next.length (szD x.heap.next.length (encL x.heap.next)),.bs (d,pk (p ++ [i+2])) x.edges.length (szD x.edges.length (encL x.edges)),.s (.int .i64 x.code)]:=rfl
  rw [ha]
  suffices hh:∃ R m,callo g e 38 [.ag [.bs (d,pk (p ++ [i])) x.heap.vars.length (szD x.heap.vars.length (encL x.heap.vars)),.bs (d,pk (p ++ [i+1])) x.heap.next.length (szD x.heap.next.length (encL x.heap.next)),.bs (d,pk (p ++ [i+2])) x.edges.length (szD x.edges.length (encL x.edges)),.s (.int .i64 x.code)],.one (.s (.int .i64 k))] mem=some (R,m)∧R=.one (.s (.int .i64 (mkF_markFailure x k).2))∧MemR mem m d p i 4∧subL m d p i [.sl ((zan x.heap k).1.vars).length (encL ((zan x.heap k).1.vars)),.sl ((zan x.heap k).1.next).length (encL ((zan x.heap k).1.next)),.sl ((zaf x.edges ((zan x.heap k).2)).1).length (encL ((zaf x.edges ((zan x.heap k).2)).1)),.sc (.int .i64 x.code)] by
   obtain ⟨R,m,hc,rfl,hr⟩:=hh
   exact ⟨m,hc,hr⟩
  refine start_m (Tryz.f38.body.getD .skip) [.tmp 4] G Tryz.func38 (by kernel_rfl) (by simp [Tryz.ntmps38]) rfl ?_
  simp [Tryz.f38,gP,gt,gr,gg,n0,i_20,i_21]
  have S0:subL (upd mem (e+1,2) (some [.bs (d,pk (p ++ [i])) x.heap.vars.length (szD x.heap.vars.length (encL x.heap.vars)),.bs (d,pk (p ++ [i+1])) x.heap.next.length (szD x.heap.next.length (encL x.heap.next)),.bs (d,pk (p ++ [i+2])) x.edges.length (szD x.edges.length (encL x.edges)),.s (.int .i64 x.code)])) d p i [.sl x.heap.vars.length (encL x.heap.vars),.sl x.heap.next.length (encL x.heap.next),.sl x.edges.length (encL x.edges),.sc (.int .i64 x.code)]:=subL_congr (fun j q _=>by rw [upd_get,if_neg (by intro hh;have:=(Prod.mk.inj hh).1;omega)]) hs
  have T0:Tight (e+1) (upd mem (e+1,2) (some [.bs (d,pk (p ++ [i])) x.heap.vars.length (szD x.heap.vars.length (encL x.heap.vars)),.bs (d,pk (p ++ [i+1])) x.heap.next.length (szD x.heap.next.length (encL x.heap.next)),.bs (d,pk (p ++ [i+2])) x.edges.length (szD x.edges.length (encL x.edges)),.s (.int .i64 x.code)])):=hT.up.upd (by simp) (by simp;omega)
  have M0:MemR (upd mem (e+1,2) (some [.bs (d,pk (p ++ [i])) x.heap.vars.length (szD x.heap.vars.length (encL x.heap.vars)),.bs (d,pk (p ++ [i+1])) x.heap.next.length (szD x.heap.next.length (encL x.heap.next)),.bs (d,pk (p ++ [i+2])) x.edges.length (szD x.edges.length (encL x.edges)),.s (.int .i64 x.code)])) (upd mem (e+1,2) (some [.bs (d,pk (p ++ [i])) x.heap.vars.length (szD x.heap.vars.length (encL x.heap.vars)),.bs (d,pk (p ++ [i+1])) x.heap.next.length (szD x.heap.next.length (encL x.heap.next)),.bs (d,pk (p ++ [i+2])) x.edges.length (szD x.edges.length (encL x.edges)),.s (.int .i64 x.code)])) d p i 4:=MemR.refl _ _ _ _ _
  obtain ⟨m1,hc1,S1,M1'⟩:=struct_mark (pre:=[]) h0 rfl (show d≤e+1 by omega) T0 S0
  refine goal_callM _ _ rfl hc1 ?_
  have M1:=M0.trans M1'
  have T1:Tight (e+1) m1:=M1.tight (show d≤e+1 by omega) T0
  have b1:m1 (e+1,2)=some [.bs (d,pk (p ++ [i])) x.heap.vars.length (szD x.heap.vars.length (encL x.heap.vars)),.bs (d,pk (p ++ [i+1])) x.heap.next.length (szD x.heap.next.length (encL x.heap.next)),.bs (d,pk (p ++ [i+2])) x.edges.length (szD x.edges.length (encL x.edges)),.s (.int .i64 x.code)]:=by rw [M1.far _ (fun j q _ _ hh=>by have:=(Prod.mk.inj hh).1;omega),upd_get,if_pos rfl]
  simp [gP,gt,gr,gg,b1,i_20,i_21]
  obtain ⟨m2,hc2,S2,M2'⟩:=struct_mark (pre:=[.sl ((zan x.heap k).1.vars).length (encL ((zan x.heap k).1.vars)),.sl ((zan x.heap k).1.next).length (encL ((zan x.heap k).1.next))]) h1 rfl (show d≤e+1 by omega) T1 S1
  refine goal_callM _ _ rfl hc2 ?_
  have M2:=M1.trans M2'
  have T2:Tight (e+1) m2:=M2.tight (show d≤e+1 by omega) T0
  have b2:m2 (e+1,2)=some [.bs (d,pk (p ++ [i])) x.heap.vars.length (szD x.heap.vars.length (encL x.heap.vars)),.bs (d,pk (p ++ [i+1])) x.heap.next.length (szD x.heap.next.length (encL x.heap.next)),.bs (d,pk (p ++ [i+2])) x.edges.length (szD x.edges.length (encL x.edges)),.s (.int .i64 x.code)]:=by rw [M2.far _ (fun j q _ _ hh=>by have:=(Prod.mk.inj hh).1;omega),upd_get,if_pos rfl]
  simp [gP,gt,gr,gg,b2,i_20,i_21,Goal,FnEndM]
  exact ⟨_,_,⟨rfl,rfl⟩,rfl,byval_end hd hT (cs:=[.sl x.heap.vars.length (encL x.heap.vars),.sl x.heap.next.length (encL x.heap.next),.sl x.edges.length (encL x.edges),.sc (.int .i64 x.code)]) (i0:=i) M2 S2⟩
end Go.Proofs

