import Derived.Test.YtfcfpdcjepobpaaGreatEvA10
import Derived.Test.YtfcfpdcjepobpaaGreatEvA7
import Derived.Test.YtfcfpdcjepobpaaGreatEvA9
import Derived.Test.YtfcfpdcjepobpaaGreatProg
import Derived.KernelRfl
import Derived.Shelf.Strings.OnBuilder
import Derived.Shelf.Strconv.Itoa3
import Derived.WalkKit
import Derived.Deep.LoopGhost
import Derived.Lib.Walk
import Derived.Lib.AppendStr
import Derived.Laws.IdiomStrings
import Derived.Laws.BytesArg
import Derived.IntWalk
import Derived.Below
import Derived.Lib.SliceRun
import Derived.Laws.OwnMore
import Derived.Lib.AppendZerosOnto
import Derived.Test.YtfcfpdcjepobpaaGreatEvA8
import Derived.Deep.RegionLaw
import Derived.Shelf.RegionOpenPlain
import Derived.Lib.SlicesDelete
import Derived.Laws.Rows
set_option linter.unusedSimpArgs false
set_option linter.unusedVariables false
set_option linter.unnecessarySimpa false
noncomputable section
namespace Go.Ev
structure CurOK (c:TL1Cur):Prop where
 lo:0≤c.i
 len:c.b.length≤1048576
theorem at_ex {α:Type} {xs:List α} {n:Int} (h0:0≤n) (h1:n < (xs.length:Int)):∃ x,at? xs n=some x:=by
 unfold at?
 rw [if_pos h0]
 exact ⟨_,List.getElem?_eq_getElem (by omega)⟩
theorem byte_ok {c:TL1Cur} (h:CurOK c):Tot (zdd c) fun y=>(0≤y.1∧y.1 < 256)∧CurOK y.2:=by
 unfold zdd
 have h1:=h.lo
 have h2:=h.len
 rw [zfs]
 split
 ·rename_i hi
  obtain ⟨e,he⟩:=at_ex h1 hi
  rw [he,Option.bind_some]
  refine Tot.ret ⟨andI_255 _,⟨?_,h2⟩⟩
  show 0≤addI c.i 1
  rw [zam (by omega) (by omega)]
  omega
 ·exact Tot.ret ⟨andI_255 _,⟨h1,h2⟩⟩
theorem ziu {c:TL1Cur} (h:CurOK c) {n:Int} (hn:1≤n∧n≤256):Tot (zbr c n) fun y=>(0≤y.1∧y.1 < n)∧CurOK y.2:=by
 unfold zbr
 simp only [leI,zaf]
 rw [if_neg (by omega),if_pos hn.2]
 refine Tot.bind (byte_ok h) fun y hy=>?_
 unfold remQ
 rw [if_neg (by omega),Option.bind_some]
 exact Tot.ret ⟨⟨Int.tmod_nonneg _ hy.1.1,Int.tmod_lt_of_pos _ (by omega)⟩,hy.2⟩
theorem once_ok {c:TL1Cur} (h:CurOK c) {n:Int} (hn:1≤n∧n≤256):Tot (zeu c n) fun y=>CurOK y.2:=by
 unfold zeu
 exact Tot.bind (ziu h hn) fun y hy=>Tot.ret hy.2
theorem zpl {c:TL1Cur} (h:CurOK c) {l:List Int} (hl:1≤l.length∧l.length≤256):Tot (zfc c l) fun y=>y.1∈l∧CurOK y.2:=by
 unfold zfc
 refine Tot.bind (ziu h (by omega)) fun y hy=>?_
 obtain ⟨e,he⟩:=at_ex hy.1.1 hy.1.2
 rw [he,Option.bind_some]
 refine Tot.ret ⟨?_,hy.2⟩
 unfold at? at he
 rw [if_pos hy.1.1] at he
 exact List.mem_of_getElem? he
theorem new_ok {code:List U8} (h:code.length≤1048576):Tot (zfd code) CurOK:=by
 unfold zfd
 refine Tot.bind (P:=fun _=>True) (Tot.loop (fun i s=>s.2=(i:Int)) code.length rfl fun i s hI hi=>?_) fun r _=>Tot.ret ⟨Int.le_refl _,h⟩
 rw [zfs]
 split
 ·rename_i hlt
  rw [zfs]
  split
  ·obtain ⟨e,he⟩:=at_ex (xs:=code) (n:=s.2) (by omega) hlt
   rw [he,Option.bind_some]
   refine Tot.ret ⟨by omega,?_⟩
   show addI s.2 1=_
   rw [zam (by omega) (by omega),hI]
   omega
  ·exact Tot.ret trivial
 ·exact Tot.ret trivial
theorem draw7_ok {c:TL1Cur} (h:CurOK c) {v:Int} (hv:0≤v∧v≤10):Tot (zfh c v) fun y=>okH y.1∧CurOK y.2:=by
 unfold zfh
 refine Tot.bind (ziu h (by omega)) fun y hy=>?_
 refine Tot.bind (P:=fun r=>CurOK ⟨r.1,r.2.1,r.2.2.1⟩∧r.2.2.2.length≤5) (Tot.loop (fun i s=>s.1=(i:Int)∧CurOK ⟨s.2.1,s.2.2.1,s.2.2.2.1⟩∧s.2.2.2.2.length=i∧i≤5) 5 ⟨rfl,hy.2,rfl,by omega⟩ fun i s hI hi=>?_) fun r hr=>?_
 ·obtain ⟨h1,h2,h3,h4⟩:=hI
  rw [zfs]
  split
  ·rename_i hlt
   refine Tot.bind (once_ok h2 (by omega)) fun z hz=>?_
   cases z.1
   ·simp only [cond_false]
    rw [zak (by simp;omega) (by omega),Option.bind_some]
    refine Tot.ret ⟨by omega,?_,hz,by simp [h3],by omega⟩
    show addI s.1 1=_
    rw [zam (by omega) (by omega),h1];omega
   ·simp only [cond_true]
    rw [zam (by omega) (by omega)]
    refine Tot.bind (ziu hz (by omega)) fun u hu=>?_
    rw [zak (by simp;omega) (by omega),Option.bind_some]
    refine Tot.ret ⟨by omega,?_,hu.2,by simp [h3],by omega⟩
    show s.1+1=_
    omega
  ·exact Tot.ret ⟨h2,by show s.2.2.2.2.length≤5;omega⟩
 ·obtain ⟨hc,hl⟩:=hr
  refine Tot.bind (P:=fun r=>CurOK ⟨r.1,r.2.1,r.2.2.1⟩∧r.2.2.2.length≤10) (Tot.loop (fun i s=>s.1=(i:Int)∧CurOK ⟨s.2.1,s.2.2.1,s.2.2.2.1⟩∧s.2.2.2.2.length=i∧(i:Int)≤v) v.toNat ⟨rfl,hc,rfl,by omega⟩ fun i s hI hi=>?_) fun r2 hr2=>?_
  ·obtain ⟨h1,h2,h3,h4⟩:=hI
   rw [zfs]
   split
   ·rename_i hlt
    rw [zam (by omega) (by omega)]
    refine Tot.bind (ziu h2 (by omega)) fun z hz=>?_
    simp only [eqI,zaf]
    rw [zam (by omega) (by omega)]
    split
    ·refine Tot.bind (once_ok hz.2 (by omega)) fun u hu=>?_
     cases u.1
     ·simp only [cond_false]
      rw [zak (by simp;omega) (by omega),Option.bind_some]
      exact Tot.ret ⟨by omega,by show s.1+1=_;omega,hu,by simp [h3],by omega⟩
     ·simp only [cond_true]
      rw [zak (by simp;omega) (by omega),Option.bind_some]
      exact Tot.ret ⟨by omega,by show s.1+1=_;omega,hu,by simp [h3],by omega⟩
    ·rw [zak (by simp;omega) (by omega),Option.bind_some]
     exact Tot.ret ⟨by omega,by show s.1+1=_;omega,hz.2,by simp [h3],by omega⟩
   ·exact Tot.ret ⟨h2,by show s.2.2.2.2.length≤10;omega⟩
  ·have hok:okH ⟨r2.2.2.2,r.2.2.2⟩:=⟨by have:=hr2.2;show r2.2.2.2.length≤100;omega,by show r.2.2.2.length≤100;omega⟩
   rw [spec_canon _ hok,Option.bind_some]
   have hcl:=canF_len ⟨r2.2.2.2,r.2.2.2⟩
   exact Tot.ret ⟨⟨Nat.le_trans hcl.1 hok.1,Nat.le_trans hcl.2 hok.2⟩,hr2.1⟩
theorem sm_okH {h:THeap} (o:okH h):Sm.sm h:=⟨⟨by have:=o.1;omega,fun _ _=>trivial⟩,⟨by have:=o.2;omega,fun _ _=>trivial⟩⟩
theorem addF_ne {set:List TStructure} {s:TStructure} (h:set≠[]∨True):addF set s≠[]:=by
 unfold addF
 split
 ·rename_i hh
  rintro rfl
  cases hh
 ·intro he
  have:=congrArg List.length he
  rw [zmt] at this
  cases this
theorem set26_ok {c:TL1Cur} (h:CurOK c):Tot (zec c) fun y=>(okSt y.1∧y.1≠[]∧y.1.length≤2)∧CurOK y.2:=by
 unfold zec
 refine Tot.bind (ziu h (by omega)) fun y hy=>?_
 rw [zam (by omega) (by omega)]
 refine Tot.bind (P:=fun r=>(okSt r.1∧r.1≠[]∧r.1.length≤2)∧CurOK ⟨r.2.1,r.2.2.1,r.2.2.2⟩) (Tot.loop (fun i s=>s.2.1=(i:Int)∧(okSt s.1∧(0 < i→s.1≠[])∧s.1.length≤i)∧CurOK ⟨s.2.2.1,s.2.2.2.1,s.2.2.2.2⟩∧i≤2) 2 ⟨rfl,⟨⟨by simp,by simp⟩,by simp,by simp⟩,hy.2,by omega⟩ fun i s hI hi=>?_) fun r hr=>Tot.ret hr
 obtain ⟨h1,⟨h2,h3,h4⟩,h5,h6⟩:=hI
 rw [zfs]
 split
 ·rename_i hlt
  refine Tot.bind (draw7_ok h5 (by omega)) fun z hz=>?_
  rw [spec_abs (sm_okH hz.1),Option.bind_some,spec_add h2 (sm_abs _),Option.bind_some]
  have ha:=addF_ok h2 (sm_abs z.1)
  have hb:(addF s.1 (absF z.1)).length≤i+1:=by omega
  refine Tot.ret ⟨by omega,?_,⟨⟨Nat.le_trans hb (by omega),ha.2⟩,fun _=>addF_ne (.inr trivial),hb⟩,hz.2,by omega⟩
  show addI s.2.1 1=_
  rw [zam (by omega) (by omega),h1];omega
 ·exact Tot.ret ⟨⟨h2,h3 (by omega),Nat.le_trans h4 h6⟩,h5⟩
end Go.Ev


namespace Go.Ev
theorem sameI {a b:List Int} (h:a.length≤9223372036854775806):zfg a b=some (decide (a=b)):=by
 refine eqRow h (fun i x y hi hx hy=>?_) ?_ (by unfold zfg;rfl)
 ·simp only [zfs,cond_ne,zck,hx,hy,Option.bind_some,Int.ofNat_lt,hi,if_true]
  by_cases he:x=y <;> simp [he]
 ·simp [zfs]
theorem eqH_ok {a b:THeap} (h:tiny a):zdn a b=some (decide (a=b)):=by
 obtain ⟨h1,h2⟩:=h
 unfold zdn
 rw [sameI (by omega),sameI (by omega)]
 rcases a with ⟨a0,a1⟩
 rcases b with ⟨b0,b1⟩
 simp only [Option.bind_some,zaf,THeap.mk.injEq]
 by_cases h0:a0=b0 <;> by_cases h1:a1=b1 <;> simp [h0,h1]
theorem sameHeaps_ok {a b:List THeap} (hl:a.length≤1600000) (ht:∀ h∈a,tiny h):laws_sameHeaps a b=some (decide (a=b)):=by
 refine eqRow (by omega) (fun i x y hi hx hy=>?_) ?_ (by unfold laws_sameHeaps;rfl)
 ·simp only [zfs,zck,hx,hy,Option.bind_some,Int.ofNat_lt,hi,if_true,eqH_ok (ht x (List.mem_of_getElem? hx)),zaf]
  split <;> rfl
 ·simp [zfs]
theorem loop_desc {set:List TStructure} (hs:okSet set) {l:List THeap} (ht:∀ h∈l,tiny h∧setDesc set h=true) (hl:l.length≤1600000) :
 iter (ρ:=Unit ⊕ Unit) (fun s:Int=>cond (ltI s (l.length:Int)) ((at? l s).bind fun e=>(zbf set e).bind fun y=>cond y (some (.inl (addI s 1))) (some (.inr (.inl ())))) (some (.inr (.inr ())))) 0=some (.inr ()):=by
 refine Tot.eq (Tot.all l.length (fun _=>true) () () (fun i hi=>?_) ?_ ?_)
 ·have hm:=ht _ (List.getElem_mem hi)
  simp only [zfs,Int.ofNat_lt,hi,if_true,zck,List.getElem?_eq_getElem hi,Option.bind_some,zid set _ hs hm.1,hm.2,cond_true]
  rw [zam (by omega) (by omega)]
  exact Tot.ret rfl
 ·rw [zfs,if_neg (by omega)]
  exact Tot.ret rfl
 ·simp
theorem law_Concrete {code:List U8} (_:Wf.wf code):laws_FnConcrete code=some true:=by
 unfold laws_FnConcrete laws_big
 rw [Option.bind_some,zfs]
 by_cases hb:(1048576:Int) < code.length
 ·rw [if_pos hb]
 rw [if_neg hb]
 obtain ⟨c,hc,hok⟩:=new_ok (code:=code) (by omega)
 obtain ⟨⟨set,c2⟩,h26,⟨⟨hst,hne,h2⟩,hc2⟩⟩:=set26_ok hok
 obtain ⟨⟨v,c3⟩,hv,_,hc3⟩:=zpl hc2 (l:=[2,2,2,3]) (by decide)
 obtain ⟨⟨n,c4⟩,hn,_,hc4⟩:=zpl hc3 (l:=[0,1,2,2,4]) (by decide)
 obtain ⟨⟨m,c5⟩,hm,_⟩:=ziu hc2 (n:=3) (by omega)
 have hset:okSet set:=okSet_of ⟨by have h3:set.length≤2:=h2;omega,hst.e⟩
 obtain ⟨s,rest,he⟩:∃ s rest,set=s :: rest:=by
  cases set with
  | nil=>exact absurd rfl hne
  | cons s rest=>exact ⟨s,rest,rfl⟩
 have hs0:at? set 0=some s:=by rw [he];rfl
 have hs1:okSet [s]:=⟨by unfold small;simp,fun t ht=>by
  rw [List.mem_singleton] at ht
  subst ht
  exact hset.2 _ (by rw [he];exact List.mem_cons_self ..)⟩
 have d1:zbh code=some (v,set,n):=by
  unfold zbh
  simp only [hc,Option.bind_some,h26,hv,hn]
 have d2:zcf code=some (2,s):=by
  unfold zcf
  simp only [hc,Option.bind_some,h26,hs0]
 have d3:zcg code=some (2,s,m):=by
  unfold zcg
  simp only [hc,Option.bind_some,h26,hs0,hm]
 have e1:zej 2 s m=zcx 2 s m:=by
  unfold zej zcx
  rw [zho 2 [s] m hs1,zhi 2 [s] m hs1]
 have e2:zcx 2 s m=some (eqI ((shOf 2 [s] m).length:Int) 1):=by
  unfold zcx
  rw [zhi 2 [s] m hs1]
  rfl
 have hd:∀ h∈shOf v set n,tiny h∧setDesc set h=true:=fun h hh=>⟨zkw v set n h hh,(List.mem_filter.1 hh).2⟩
 have e3:(leastF 2 s).2=true→zbu s (leastF 2 s).1=some true:=fun ho=>by
  unfold leastF at ho ⊢
  cases hl:shOf 2 [s] 3 with
  | nil=>rw [hl] at ho;cases ho
  | cons h t =>
   have hh:h∈shOf 2 [s] 3:=by rw [hl];exact List.mem_cons_self ..
   have ht:=zkw 2 [s] 3 h hh
   have hs:=(List.mem_filter.1 hh).2
   simp only [setDesc,List.any_cons,List.any_nil,Bool.or_false] at hs
   show zbu s h=some true
   unfold zbu
   rw [zgz h (by unfold small;have:=ht.1;omega) (by unfold small;have:=ht.2;omega),Option.bind_some,ziz _ _ (zqe h) (hs1.2 s (List.mem_singleton.2 rfl)),hs]
   rfl
 simp only [d1,d2,d3,Option.bind_some,zgm v set n hset,zgk v set n hset,impl_least 2 s hs1,spec_least 2 s hs1,e1,e2,zho v set n hset,
  sameHeaps_ok (shOf_len v set n) (zkw v set n),eqH_ok (least_tiny 2 s),decide_true,cond_true,neB,neI,bne_self_eq_false,cond_false,loop_desc hset hd (shOf_len v set n)]
 cases ho:(leastF 2 s).2 with
 | false=>simp
 | true=>simp [e3 ho]
end Go.Ev


namespace Go.Proofs
open Go.Ev
theorem st0 {g:Cfg} {f:Nat} {args:List AV} {fn:Go.Func} {r:AV} (l:List Go.ResultVar) (h1:Tryz.prog.funcs[f]?=some fn) (h:Goal (FnEnd Tryz.prog 0 l ((lookK (f,atEnd) g.gho).getD []) r) (evk g (0+1) f (fn.body.getD .skip) [] { env:=fun t=>(args[t]?).getD .dead,mem:=mem0 }))
 (h0:lookN f g.ctx=none:=by rfl) (hP:g.P=Tryz.prog:=by rfl) (h2:fn.body=some (fn.body.getD .skip):=by kernel_rfl) (h3:fnOK g f fn=true:=by kernel_rfl) (h4:Nat.ble args.length fn.ntmps=true:=by kernel_rfl) (h5:fn.results.toList=l:=by rfl):∃ m,callo g 0 f args mem0=some (r,m) :=
 start_fn _ l h0 hP h1 h2 h3 (Nat.le_of_ble_eq_true h4) h5 h
theorem stD {g:Cfg} {f d:Nat} {args:List AV} {fn:Go.Func} {r:AV} {mem:Mem} {Q:Mem→Prop} (l:List Go.ResultVar) (h1:Tryz.prog.funcs[f]?=some fn) (h:∀ QV,QV=Q→Goal (FnEndD Tryz.prog d l ((lookK (f,atEnd) g.gho).getD []) r QV) (evk g (d+1) f (fn.body.getD .skip) [] { env:=fun t=>(args[t]?).getD .dead,mem }))
 (h0:lookN f g.ctx=none:=by rfl) (hP:g.P=Tryz.prog:=by rfl) (h2:fn.body=some (fn.body.getD .skip):=by kernel_rfl) (h3:fnOK g f fn=true:=by kernel_rfl) (h4:Nat.ble args.length fn.ntmps=true:=by kernel_rfl) (h5:fn.results.toList=l:=by rfl):∃ m,callo g d f args mem=some (r,m)∧Q m :=
 start_D _ l h0 hP h1 h2 h3 (Nat.le_of_ble_eq_true h4) h5 h
theorem ent {f : Nat} {fn : Go.Func} (h : Tryz.prog.funcs[f]? = some fn) (h1 : fn.body.isSome = true := by kernel_rfl) (h2 : (fn.name == "runtime.NumGoroutine") = false := by kernel_rfl) : Go.Ev.Enters Tryz.prog f := ⟨fn, h, h1, h2⟩
@[simp] theorem ti_3:ti Tryz.prog 3=some { size:=1,bytes:=8,agg:=false,elem:=none,flds:=[],zero:=[.int .i64 0] }:=by kernel_rfl
@[simp] theorem ti_4:ti Tryz.prog 4=some { size:=1,bytes:=1,agg:=false,elem:=none,flds:=[],zero:=[.bool false] }:=by kernel_rfl
attribute [simp] Tryz.underlying4
@[simp] theorem ti_5:ti Tryz.prog 5=some { size:=1,bytes:=1,agg:=false,elem:=none,flds:=[],zero:=[.int .u8 0] }:=by kernel_rfl
@[simp] theorem ti_9:ti Tryz.prog 9=some { size:=1,bytes:=16,agg:=false,elem:=none,flds:=[],zero:=[.string ByteArray.empty] }:=by kernel_rfl
attribute [simp] Tryz.underlying9
@[simp] theorem ti_22:ti Tryz.prog 22=some { size:=1,bytes:=24,agg:=false,elem:=some 5,flds:=[],zero:=[.slice none 0 0] }:=by kernel_rfl
@[simp] theorem ti_24:ti Tryz.prog 24=some { size:=1,bytes:=24,agg:=false,elem:=some 32,flds:=[],zero:=[.slice none 0 0] }:=by kernel_rfl
@[simp] theorem ti_27:ti Tryz.prog 27=some { size:=1,bytes:=24,agg:=false,elem:=some 36,flds:=[],zero:=[.slice none 0 0] }:=by kernel_rfl
@[simp] theorem ti_29:ti Tryz.prog 29=some { size:=1,bytes:=24,agg:=false,elem:=some 75,flds:=[],zero:=[.slice none 0 0] }:=by kernel_rfl
@[simp] theorem ti_30:ti Tryz.prog 30=some { size:=1,bytes:=24,agg:=false,elem:=some 3,flds:=[],zero:=[.slice none 0 0] }:=by kernel_rfl
@[simp] theorem ti_32:ti Tryz.prog 32=some { size:=2,bytes:=48,agg:=true,elem:=none,flds:=[(0,29),(1,30)],zero:=[.slice none 0 0,.slice none 0 0] }:=by kernel_rfl
@[simp] theorem ti_36:ti Tryz.prog 36=some { size:=2,bytes:=48,agg:=true,elem:=none,flds:=[(0,30),(1,30)],zero:=[.slice none 0 0,.slice none 0 0] }:=by kernel_rfl
@[simp] theorem ti_71:ti Tryz.prog 71=some { size:=1,bytes:=24,agg:=false,elem:=some 9,flds:=[],zero:=[.slice none 0 0] }:=by kernel_rfl
@[simp] theorem ti_75:ti Tryz.prog 75=some { size:=4,bytes:=64,agg:=true,elem:=none,flds:=[(0,30),(1,30),(2,3),(3,3)],zero:=[.slice none 0 0,.slice none 0 0,.int .i64 0,.int .i64 0] }:=by kernel_rfl
@[simp] theorem ti_81:ti Tryz.prog 81=some { size:=1,bytes:=24,agg:=false,elem:=some 30,flds:=[],zero:=[.slice none 0 0] }:=by kernel_rfl
@[simp] theorem ti_93:ti Tryz.prog 93=some { size:=3,bytes:=40,agg:=true,elem:=none,flds:=[(0,22),(1,3),(2,3)],zero:=[.slice none 0 0,.int .i64 0,.int .i64 0] }:=by kernel_rfl
@[simp] theorem ti_152:ti Tryz.prog 152=some { size:=1,bytes:=8,agg:=false,elem:=none,flds:=[],zero:=[.nilFunc] }:=by kernel_rfl
end Go.Proofs


namespace Go.Proofs
open Go.Shelf Go.RowKit Go.Lib Go.Ev Go.Sort

set_option maxHeartbeats 4000000 in
set_option maxRecDepth 1000000 in
theorem dig170 (k:Nat) (w:World) (hk:k < 10):Calls Tryz.prog 170 #[.int .i64 k] w fun e w'=>e=.returned (.string ⟨#[UInt8.ofNat (48+k)]⟩)∧Below w.heap.size w w':=by
 rcases Nat.eq_zero_or_pos k with rfl | hp
 ·go_enter Tryz.func170,Tryz.ntmps170
  go_wp2
  go_ret
  exact ⟨rfl,Below.refl _ _⟩
 ·have hp':¬ ((k:Int)=0):=by omega
  have hn':¬ ((k:Int) < 0):=by omega
  go_enter Tryz.func170,Tryz.ntmps170
  go_wp2
  go_loopg [0,4] 1 (fun g s0 s4 wr=>∃ (x:Int) (out:ByteArray),s0=.int .i64 x∧s4=.string out∧Hid ((g=1∧x=k∧out=⟨#[]⟩∨g=0∧x=0∧out=⟨#[UInt8.ofNat (48+k)]⟩)∧Below w.heap.size w wr))
  case atStart=>exact ⟨k,_,rfl,rfl,.inl ⟨rfl,rfl,rfl⟩,Below.refl _ _⟩
  case round =>
   obtain ⟨x,out,rfl,rfl,hI,hB⟩:=hrel
   have HB:Hid _:=hB
   clear hB
   rcases hI with ⟨rfl,rfl,rfl⟩|⟨rfl,rfl,rfl⟩
   ·have hm:(k:Int).tmod 10=k:=by rw [Int.tmod_eq_emod_of_nonneg (by omega)];omega
    have hm2:(k:Int) % 10=k:=by omega
    have hq:(k:Int) / 10=0:=by omega
    have hq2:(k:Int).tdiv 10=0:=by rw [Int.tdiv_eq_ediv_of_nonneg (by omega)];omega
    have hconv:(convert 22 9 (.slice (some ⟨wr.heap.size,0,none⟩) 1 1)).run Tryz.prog (wr.alloc (.cells #[.int .u8 (48+k)] 5))=.ok (.string ⟨#[UInt8.ofNat (48+k)]⟩) (wr.alloc (.cells #[.int .u8 (48+k)] 5)):=by
     have:=run_convert_bytes_arg (P:=Tryz.prog) (wr.alloc (.cells #[.int .u8 (48+k)] 5)) 22 5 Tryz.underlying22 Tryz.underlying5 wr.heap.size 0 1 1 [48+(k:Int)] rfl (fun i hi=>by
      obtain rfl:i=0:=by omega
      simp) 9 Tryz.underlying9
     rw [this]
     rfl
    go_wp2
    go_roundg 0
    case measure=>omega
    case rel=>exact ⟨_,_,rfl,rfl,.inr ⟨rfl,by simp,by simp;rfl⟩,HB.out.alloc HB.out.size _⟩
   ·go_wp2
    go_ret
    exact ⟨rfl,HB.out⟩

theorem join_snoc (l:List (List UInt8)) (x sep:List UInt8) (h:l≠[]):Lib.join (l ++ [x]) sep=Lib.join l sep ++ sep ++ x:=by
 cases l with
 | nil=>exact absurd rfl h
 | cons a r =>
  rw [List.cons_append,Lib.join_cons,Lib.join_cons]
  simp [Lib.joinTail]
theorem zlu (xs:List ByteArray) (sep:ByteArray) (i:Nat) (h:i < xs.length):joinL (xs.take (i+1)) sep=if i=0 then xs[i].data.toList else joinL (xs.take i) sep ++ sep.data.toList ++ xs[i].data.toList:=by
 unfold joinL
 rw [List.take_succ_eq_append_getElem h,List.map_append,List.map_cons,List.map_nil]
 split
 ·rename_i h0
  subst h0
  simp [Lib.join_one]
 ·rename_i hi
  have hne:(xs.take i).map (·.data.toList)≠[]:=by
   intro h0
   rw [List.map_eq_nil_iff,List.take_eq_nil_iff] at h0
   rcases h0 with h0 | h0
   ·exact hi h0
   ·subst h0
    simp at h
  exact join_snoc _ _ _ hne
theorem joinL_mono (xs:List ByteArray) (sep:ByteArray) (i:Nat) (h:i≤xs.length):(joinL (xs.take i) sep).length≤(joinL xs sep).length:=by
 have:∀ k,i+k≤xs.length→(joinL (xs.take i) sep).length≤(joinL (xs.take (i+k)) sep).length:=by
  intro k
  induction k with
  | zero=>intro _;exact Nat.le_refl _
  | succ k ih =>
   intro hk
   refine Nat.le_trans (ih (by omega)) ?_
   rw [show i+(k+1)=i+k+1 by omega,zlu xs sep (i+k) (by omega)]
   split
   ·rename_i h0
    have e:(joinL (xs.take (i+k)) sep).length=0:=by rw [h0];simp [joinL,Lib.join_nil]
    omega
   ·simp only [List.length_append];omega
 have h2:=this (xs.length - i) (by omega)
 rw [show i+(xs.length - i)=xs.length by omega,List.take_length] at h2
 exact h2
def jcells (l:List UInt8):List Value:=l.map fun b=>Value.int .u8 b.toNat
theorem info5:(Tryz.prog.info? 5).map (fun i=>(i.zero,i.size,i.bytes))=some (some (.int .u8 0),1,1):=by kernel_rfl

theorem conv118 {w:World} {base:Nat} {v:Value} {L:List UInt8} (h:w.ownsRow base 5 1 v L.length (jcells L)):(convert 22 9 v).run Tryz.prog w=.ok (.string ⟨L.toArray⟩) w:=by
 have e:strOfNums (L.map fun b=>(b.toNat:Int))=⟨L.toArray⟩:=by
  unfold strOfNums
  rw [List.map_map]
  congr 2
  conv=>rhs;rw [← List.map_id L]
  exact List.map_congr_left fun b _=>by simp
 rcases h.2 with ⟨rfl,h0⟩|⟨g,cap,cur,rfl,_⟩
 ·rw [run_convert_bytes_nil w 22 5 Tryz.underlying22 Tryz.underlying5 0 0 9 Tryz.underlying9]
  have:L=[]:=List.length_eq_zero_iff.1 h0
  subst this
  rfl
 ·have:=run_convert_bytes_arg (P:=Tryz.prog) w 22 5 Tryz.underlying22 Tryz.underlying5 g 0 L.length cap (L.map fun b=>(b.toNat:Int)) (by simp) (fun i hi=>by
   rw [Nat.zero_add,h.cellAt i (by omega),jcells,List.getElem?_map,List.getElem?_eq_getElem hi]
   simp [hi]) 9 Tryz.underlying9
  rw [this,e]

set_option maxHeartbeats 4000000 in
set_option maxRecDepth 1000000 in
theorem join161 (base:Option Addr) (b o c n:Nat) (xs:List ByteArray) (sep:ByteArray) (w:World) (hbase:0 < n→base=some ⟨b,o,none⟩) (hc:Hid (∀ (j:Nat) x,xs[j]?=some x→w.cell? ⟨b,o+j,none⟩=some (.string x))) (hb:Hid (0 < n→b < w.heap.size)) (hl:Hid (xs.length=n)) (hn:n≤1000000) (hlen:Hid ((joinL xs sep).length≤1000000000)) :
 Calls Tryz.prog 161 #[.slice base n c,.string sep] w fun e w'=>e=.returned (.string ⟨(joinL xs sep).toArray⟩)∧Below w.heap.size w w':=by
 obtain ⟨i0,hi,hz0,hz1,hz2⟩:=info_parts info5
 have B:Aside (i0.size=1∧i0.bytes=1):=⟨hz1,hz2⟩
 clear hz1 hz2
 go_enter Tryz.func161,Tryz.ntmps161
 go_wp2
 go_loopg [5,6] n (fun k v s6 wr=>∃ i,k=n - i∧i≤n∧s6=.int .i64 i∧Hid (wr.ownsRow w.heap.size 5 1 v (joinL (xs.take i) sep).length (jcells (joinL (xs.take i) sep))∧Below w.heap.size w wr))
 case atStart=>exact ⟨0,rfl,Nat.zero_le _,rfl,by
  refine ⟨?_,(Below.refl _ _).alloc (Nat.le_refl _) _⟩
  have:=World.ownsRow_lit (base:=w.heap.size) (e:=5) (size:=1) w #[] 0 (Nat.le_refl _) (by decide) rfl
  simpa [joinL,Lib.join_nil,jcells] using this⟩
 case round =>
  obtain ⟨i,hk,hi2,rfl,hI⟩:=hrel
  have HI:Hid _:=hI
  clear hI
  by_cases hlt:i < n
  ·obtain rfl:=hbase (by omega)
   have hli:i < xs.length:=by rw [hl.out];exact hlt
   have hx0:w.cell? ⟨b,o+i,none⟩=some (.string xs[i]):=hc.out i _ (List.getElem?_eq_getElem hli)
   obtain ⟨x,hx⟩:∃ x,x=xs[i]:=⟨_,rfl⟩
   rw [← hx] at hx0
   have hxc:wr.cell? ⟨b,o+i,none⟩=some (.string x):=by rw [HI.out.2.cell (hb.out (by omega))];exact hx0
   have HX:Hid (x=xs[i]):=hx
   clear hx hx0
   have hlt':(i:Int) < (n:Int):=by omega
   have hz:Hid ((joinL (xs.take (i+1)) sep).length≤1000000000):=Nat.le_trans (joinL_mono xs sep (i+1) hli) hlen.out
   by_cases h0:i=0
   ·subst h0
    have h0':¬ ((0:Int) > 0):=by omega
    rw [Nat.add_zero] at hxc
    have e1:Hid (joinL (xs.take (0+1)) sep=x.data.toList):=by show _=_;rw [zlu xs sep 0 hli,if_pos rfl,HX.out]
    have e0:Hid (joinL (xs.take 0) sep=[]):=by show _=_;simp [joinL,Lib.join_nil]
    have hs:Hid ((joinL (xs.take 0) sep).length+x.size≤1000000000):=by
     have:=hz.out
     rw [e1.out,Array.length_toList] at this
     rw [e0.out]
     show 0+x.data.size≤_
     omega
    go_wp2_with (at_builtin;refine wpList_append_own_string _ rfl _ _ 22 9 rfl w.heap.size 5 i0 Tryz.underlying22 Tryz.underlying9 hi hz0 B.out.1 B.out.2 _ _ _ rfl HI.out.1 x rfl (Nat.le_trans hs.out (by decide)) (Nat.le_trans hs.out (by decide)) HI.out.2.size ?_;rintro v' w' hown hgr hnil)
    go_roundg (n - 1)
    case measure=>omega
    case rel =>
     refine ⟨1,rfl,by omega,rfl,?_,HI.out.2.grown hgr HI.out.2.size fun k hk=>(HI.out.1.lt k hk).1⟩
     rw [show (1:Nat)=0+1 from rfl,e1.out]
     rw [e0.out] at hown
     have e2:x.data.toList.length=x.size:=Array.length_toList
     rw [e2]
     simpa [jcells,strCells] using hown
   ·have h0':(i:Int) > 0:=by omega
    have e1:Hid (joinL (xs.take (i+1)) sep=joinL (xs.take i) sep ++ sep.data.toList ++ x.data.toList):=by show _=_;rw [zlu xs sep i hli,if_neg h0,HX.out]
    have hs:Hid ((joinL (xs.take i) sep).length+sep.size+x.size≤1000000000):=by
     have:=hz.out
     rw [e1.out,List.length_append,List.length_append,Array.length_toList,Array.length_toList] at this
     exact this
    have hbw:Hid (b < w.heap.size):=hb.out (by omega)
    have hx0:Hid (w.cell? ⟨b,o+i,none⟩=some (.string x)):=by show _=_;rw [← HI.out.2.cell hbw.out];exact hxc
    clear hxc
    go_wp2_with (first | (at_builtin;refine wpList_append_own_string _ rfl _ _ 22 9 rfl w.heap.size 5 i0 Tryz.underlying22 Tryz.underlying9 hi hz0 B.out.1 B.out.2 _ _ _ rfl HI.out.1 sep rfl (Nat.le_trans (Nat.le_trans (Nat.le_add_right _ _) hs.out) (by decide)) (Nat.le_trans (Nat.le_trans (Nat.le_add_right _ _) hs.out) (by decide)) HI.out.2.size ?_;rintro v' w' hown hgr hnil;have HB:Hid (RowKit.Below w.heap.size w w'):=HI.out.2.grown hgr HI.out.2.size fun k hk=>(HI.out.1.lt k hk).1;have hxc:w'.cell? ⟨b,o+i,none⟩=some (.string x):=(HB.out.cell hbw.out).trans hx0.out;have HO:Hid _:=hown;clear hown hgr hnil) | (at_builtin;refine wpList_append_own_string _ rfl _ _ 22 9 rfl w.heap.size 5 i0 Tryz.underlying22 Tryz.underlying9 hi hz0 B.out.1 B.out.2 _ _ _ rfl HO.out x rfl (Nat.le_trans hs.out (by decide)) (Nat.le_trans hs.out (by decide)) HB.out.size ?_;rintro v2 w2 hown2 hgr2 hnil2))
    go_roundg (n - (i+1))
    case measure=>omega
    case rel =>
     refine ⟨i+1,rfl,by omega,by simp,?_,HB.out.grown hgr2 HB.out.size fun k hk=>(World.ownsRow.lt HO.out k hk).1⟩
     rw [e1.out]
     have e2:x.data.toList.length=x.size:=Array.length_toList
     have e3:sep.data.toList.length=sep.size:=Array.length_toList
     rw [List.length_append,List.length_append,e2,e3]
     simpa [jcells,strCells] using hown2
  ·obtain rfl:i=n:=by omega
   have hT:joinL (xs.take i) sep=joinL xs sep:=by rw [← hl.out,List.take_length]
   rw [hT] at HI
   obtain ⟨L,hL⟩:∃ L,L=joinL xs sep:=⟨_,rfl⟩
   rw [← hL] at HI
   have HL:Hid (L=joinL xs sep):=hL
   have hconv:=conv118 HI.out.1
   clear hL hT
   have hB:Hid (RowKit.Below w.heap.size w wr):=HI.out.2
   clear HI
   obtain ⟨cv,hcv⟩:∃ cv,cv=(⟨L.toArray⟩:ByteArray):=⟨_,rfl⟩
   rw [← hcv] at hconv
   have HC:Hid (cv=(⟨L.toArray⟩:ByteArray)):=hcv
   clear hcv
   go_wp2
   go_ret
   exact ⟨by rw [HC.out,HL.out];rfl,hB.out⟩
theorem pcG161:PC Tryz.prog 161 (specP (X:=List ByteArray × ByteArray × Unit) fun x=>joinF x.1 x.2.1) :=
 pc_join ⟨Tryz.f161,Tryz.func161,by kernel_rfl,by kernel_rfl⟩ (fun a c sep w=>by
  have:=join161 a 0 0 c 0 [] sep w (fun h=>by omega) (fun j x h=>by simp at h) (fun h=>by omega) rfl (by omega) (by show _≤_;simp [joinL,Lib.join_nil])
  simpa [joinL,Lib.join_nil] using this)
  fun b o c xs sep w _ hc hb h1 h2 h3=>join161 _ b o c xs.length xs sep w (fun _=>rfl) hc (fun _=>hb) rfl h1 h3
theorem pcG170:PC Tryz.prog 170 (specP (X:=Int × Unit) fun x=>digF x.1) :=
 pc_dig ⟨Tryz.f170,Tryz.func170,by kernel_rfl,by kernel_rfl⟩ fun k w hk=>dig170 k w hk
end Go.Proofs


namespace Go.Proofs
open Go.Ev Go.RowKit Go.Lib Go.Sort
def C170:List AV→Option AV:=specP (X:=Int × Unit) fun x=>zcb x.1
theorem zrn {n:Int} {y} (h:zcb n=some y):C170 [av .shr n]=some (Res.res y):=zah (X:=Int × Unit) (F:=fun x=>zcb x.1) (x:=(n,())) h
theorem pc170:PC Tryz.prog 170 C170:=pcG170

def C161:List AV→Option AV:=specP (X:=List ByteArray × ByteArray × Unit) fun x=>zgg x.1 x.2.1
theorem C161_eq {l:List ByteArray} {s:ByteArray} {y} (h:zgg l s=some y):C161 [av .shr l,av .shr s]=some (Res.res y):=zah (X:=List ByteArray × ByteArray × Unit) (F:=fun x=>zgg x.1 x.2.1) (x:=(l,s,())) h
theorem pc161:PC Tryz.prog 161 C161:=pcG161

theorem INFO3:(Tryz.prog.info? 3).map (fun i=>(i.zero,i.size,i.bytes))=some (some (.int .i64 0),1,8):=by kernel_rfl
set_option maxHeartbeats 4000000 in
set_option maxRecDepth 100000 in
theorem grow156_zero (w:World):Calls Tryz.prog 156 #[.slice none 0 0,.int .i64 0] w fun e w'=>e=.returned (.slice none 0 0)∧w'=w:=by
 have u30:∀ w,Sem.run Tryz.prog (underlying 30) w=.ok (TypeDesc.slice 3) w:=run_underlying Tryz.underlying30
 go_enter Tryz.func156,Tryz.ntmps156
 go_wp2
 go_ret
 exact ⟨rfl,rfl⟩

set_option maxHeartbeats 4000000 in
set_option maxRecDepth 100000 in
theorem grow156_pos (n:Nat) (w:World) (h0:0 < n) (hbig:n * 8≤140737488355328) :
 Calls Tryz.prog 156 #[.slice none 0 0,.int .i64 n] w fun e w'=>∃ v,e=.returned v∧w'.ownsRow w.heap.size 3 1 v 0 []∧Below w.heap.size w w':=by
 obtain ⟨i0,hi,hz0,hz1,hz2⟩:=info_parts INFO3
 have u30:∀ w,Sem.run Tryz.prog (underlying 30) w=.ok (TypeDesc.slice 3) w:=run_underlying Tryz.underlying30
 have hrz:=fun ty=>run_append_grow_zeros (P:=Tryz.prog) w 30 3 ty 3 i0 (.int .i64 0) .i64 .i64 Tryz.underlying30 Tryz.underlying3 hi hz0 none 0 0 [] (run_firstCells_none w.drew i0.size 0 0 0) n h0 (by omega) (by omega) (by omega) (by rw [hz2];omega)
  (by rw [hz2];exact growslice_fits (by omega) (by omega))
 have hGn:0+n≤grownCap w (0+n) 0 3:=grownCap_ge w _ _ _
 have hGm:=grownCap_le_maxLen w (0+n) 0 3 (by unfold maxLen;omega)
 obtain ⟨G,hG⟩:∃ G,G=grownCap w (0+n) 0 3:=⟨_,rfl⟩
 rw [← hG] at hrz hGn hGm
 have A:Aside (G≤maxLen):=hGm
 clear hG hGm
 simp only [Nat.zero_add] at hrz hGn
 have h1:¬ ((n:Int) < 0):=by omega
 have h2:((n:Int) > 0):=by omega
 have h3:wrap64 (n:Int)=n:=by unfold wrap64;omega
 have h4:G≤9223372036854775807:=by have:=A.out;unfold maxLen at this;omega
 have B:Aside (i0.size=1):=hz1
 clear hz1 hz2
 go_enter Tryz.func156,Tryz.ntmps156
 go_wp2_with (at_builtin;refine Lib.wpList_append_run _ rfl _ _ _ _ rfl _ _ rfl rfl _ _ (hrz _) ?_)
 all_goals (go_ret;refine ⟨_,rfl,⟨rfl,.inr ⟨_,_,_,rfl,Nat.le_refl _,zhx _ _,Nat.zero_le _,A.out,?_,by simp⟩⟩,rfl,rfl,rfl,by (show w.heap.size≤(w.heap.push _).size);rw [Array.size_push];omega,fun k hk=>zgi _ _ hk⟩)
 all_goals (simp [Builtin.zeroCells];omega)

theorem grow156 (n:Nat) (w:World) (hbig:n * 8≤140737488355328) :
 Calls Tryz.prog 156 #[.slice none 0 0,.int .i64 n] w fun e w'=>∃ v,e=.returned v∧w'.ownsRow w.heap.size 3 1 v 0 []∧(n=0→v=.slice none 0 0)∧Below w.heap.size w w':=by
 rcases Nat.eq_zero_or_pos n with rfl | hn
 ·refine (grow156_zero w).mono fun e w' h=>?_
  obtain ⟨rfl,rfl⟩:=h
  exact ⟨_,rfl,⟨rfl,.inl ⟨rfl,rfl⟩⟩,fun _=>rfl,Below.refl _ _⟩
 ·refine (grow156_pos n w hn hbig).mono fun e w' h=>?_
  obtain ⟨v,rfl,h1,h2⟩:=h
  exact ⟨v,rfl,h1,fun h0=>by omega,h2⟩

set_option maxHeartbeats 8000000 in
set_option maxRecDepth 1000000 in
theorem concat138 (xa:Option Addr) (xb xo N xc:Nat) (ra:Nat→Option Addr) (nn rc:Nat→Nat) (ne:Nat→List Value) (w:World) (hxa:0 < N→xa=some ⟨xb,xo,none⟩) (hN:Hid (N≤maxLen))
 (hc:Aside (∀ j,j < N→w.cell? ⟨xb,xo+j,none⟩=some (.slice (ra j) (nn j) (rc j)))) (hr:Aside (∀ j,j < N→RowAt w 1 (ra j) (nn j) (ne j))) (hbig:Aside (tot nn N * 8≤140737488355328)) :
 Calls Tryz.prog 138 #[.slice xa N xc] w fun e w'=>∃ v,e=.returned v∧w'.ownsRow w.heap.size 3 1 v (tot nn N) (cat ne N)∧(tot nn N=0→v=.slice none 0 0)∧Below w.heap.size w w':=by
 obtain ⟨i0,hi,hz0,hz1,hz2⟩:=info_parts INFO3
 have B:Aside (i0.size=1∧i0.bytes=8):=⟨hz1,hz2⟩
 clear hz1 hz2
 go_enter Tryz.func138,Tryz.ntmps138
 go_wp2
 go_loopg [3,11] N (fun k s c wr=>∃ j,k=N - j∧j≤N∧s=.int .i64 (tot nn j:Nat)∧c=.int .i64 j∧w=wr)
 case atStart=>exact ⟨0,rfl,Nat.zero_le _,rfl,rfl,rfl⟩
 case round =>
  obtain ⟨j,hk,hj,rfl,rfl,rfl⟩:=hrel
  by_cases hlt:j < N
  ·obtain rfl:=hxa (by omega)
   have hx:=hc.out j hlt
   have hlt':(j:Int) < (N:Int):=by omega
   have hw:wrap64 ((tot nn j:Int)+(nn j:Int))=((tot nn (j+1):Nat):Int):=by
    have:=zkq nn (i:=j+1) (j:=N) (by omega)
    have:=hbig.out
    exact zpz (by simp only [tot] at *; unfold maxLen;omega)
   have hneg:¬ (((tot nn (j+1):Nat):Int) < 0):=by omega
   go_wp2
   go_roundg (N - (j+1))
   case measure=>omega
   case rel=>exact ⟨j+1,rfl,by omega,rfl,by simp;exact zpz (a:=j) (b:=1) (by have:=hN.out;omega),rfl⟩
  ·obtain rfl:j=N:=by omega
   have hg:=grow156 (tot nn j) w hbig.out
   go_wp2_with (go_at_call 156;refine hg.mono ?_;rintro e w' ⟨v,rfl,hown,hnil,hbel⟩)
   clear hg
   go_loopg [6,27] j (fun k d c wq=>∃ i,k=j - i∧i≤j∧c=.int .i64 i∧wq.ownsRow w.heap.size 3 1 d (tot nn i) (cat ne i)∧(tot nn j=0→d=.slice none 0 0)∧Below w.heap.size w wq)
   case atStart=>exact ⟨0,rfl,Nat.zero_le _,rfl,hown,hnil,hbel⟩
   case round =>
    obtain ⟨i,hk,hi2,rfl,hown2,hnil2,hbel2⟩:=hrel
    by_cases hlt2:i < j
    ·obtain rfl:=hxa (by omega)
     have hx:wr.cell? ⟨xb,xo+i,none⟩=some (.slice (ra i) (nn i) (rc i)):=by
      have:=hc.out i hlt2
      rw [← this]
      exact World.cell?_of_block (hbel2.block xb (World.block_lt_of_cell? _ _ this))
     obtain ⟨v2,w2,hrun,hown3,hgr,hnil3⟩:=zmn (P:=Tryz.prog) w.heap.size 30 30 3 i0 (.int .i64 0) 1 8 Tryz.underlying30 hi hz0 B.out.1 B.out.2 rfl (by decide) _ _ _ hown2 (ra i) (nn i) (rc i) (ne i) (hr.out i hlt2) hbel2.block
      (by have:=zkq nn (i:=i+1) (j:=j) (by omega);have:=hbig.out;simp only [tot] at *; unfold maxLen;omega) (by have:=zkq nn (i:=i+1) (j:=j) (by omega);have:=hbig.out;simp only [tot] at *; omega) hbel2.size
     have hbel3:Below w.heap.size w w2:=by
      refine hbel2.trans ⟨hgr.os,hgr.tape,hgr.output,hgr.size,fun k hk=>hgr.block k (Nat.lt_of_lt_of_le hk hbel2.size) fun he=>?_⟩
      rcases hown2.2 with ⟨h1,_⟩|⟨g,cap,cur,h1,h2,_⟩
      ·rw [h1] at he;simp [Value.ownBlock] at he
      ·rw [h1] at he;simp [Value.ownBlock] at he;omega
     have hnil4:tot nn j=0→v2=.slice none 0 0:=fun h0=>by
      have:=zkq nn (i:=i+1) (j:=j) (by omega)
      rw [hnil3 (by simp only [tot] at *; omega),hnil2 h0]
     have hlt3:(i:Int) < (j:Int):=by omega
     have H:Aside (w2.ownsRow w.heap.size 3 1 v2 (tot nn (i+1)) (cat ne (i+1))∧(tot nn j=0→v2=.slice none 0 0)∧Below w.heap.size w w2):=⟨hown3,hnil4,hbel3⟩
     clear hown3 hnil4 hbel3 hnil3 hgr hown2 hnil2 hbel2 hown hnil hbel
     go_wp2_with (at_builtin;refine Lib.wpList_append_run _ rfl _ _ _ _ rfl _ _ rfl rfl _ _ hrun ?_)
     go_roundg (j - (i+1))
     case measure=>omega
     case rel=>exact ⟨i+1,rfl,by omega,by simp;exact zpz (a:=i) (b:=1) (by have:=hN.out;omega),H.out.1,H.out.2⟩
    ·obtain rfl:i=j:=by omega
     go_wp2
     go_ret
     exact ⟨_,rfl,hown2,hnil2,hbel2⟩

def C138:List AV→Option AV:=specP (X:=List (List Int) × Unit) fun x=>zdq x.1
theorem C138_eq {s:List (List Int)} {y} (h:zdq s=some y):C138 [av .shr s]=some (Res.res y):=zah (X:=List (List Int) × Unit) (F:=fun x=>zdq x.1) (x:=(s,())) h
theorem pc138:PC Tryz.prog 138 C138 :=
 pc_concat (α:=Int) (e:=3) (bytes:=8) ⟨Tryz.f138,Tryz.func138,by kernel_rfl,by kernel_rfl⟩
  fun xa xb xo N xc ra nn rc ne w h1 h2 h3 h4 h5=>concat138 xa xb xo N xc ra nn rc ne w h1 h2 h3 h4 h5

set_option maxHeartbeats 2000000 in
set_option maxRecDepth 100000 in
theorem clone95_nil (n c:Nat) (w:World):Calls Tryz.prog 95 #[.slice none n c] w fun e w'=>e=.returned (.slice none 0 0)∧w'=w:=by
 have q30:∀ (w:World) (a:Option Addr) (n c n' c':Nat),(binOp .eql 30 (.slice a n c) (.slice none n' c')).run Tryz.prog w=.ok (.bool a.isNone) w:=fun w a n c n' c'=>Lib.run_eql_slice_nil w _ _ a n c n' c' Tryz.underlying30
 go_enter Tryz.func95,Tryz.ntmps95
 go_wp2
 go_ret
 exact ⟨rfl,rfl⟩

set_option maxHeartbeats 2000000 in
set_option maxRecDepth 100000 in
theorem clone95_zero (a:Addr) (c:Nat) (w:World) :
 Calls Tryz.prog 95 #[.slice (some a) 0 c] w fun e w'=>∃ b,e=.returned (.slice b 0 0)∧w'=w.alloc (.cells #[] 3):=by
 have q30:∀ (w:World) (a:Option Addr) (n c n' c':Nat),(binOp .eql 30 (.slice a n c) (.slice none n' c')).run Tryz.prog w=.ok (.bool a.isNone) w:=fun w a n c n' c'=>Lib.run_eql_slice_nil w _ _ a n c n' c' Tryz.underlying30
 go_enter Tryz.func95,Tryz.ntmps95
 go_wp2
 go_ret
 exact ⟨_,rfl,rfl⟩

set_option maxHeartbeats 2000000 in
set_option maxRecDepth 100000 in
theorem clone95_row (b off n c:Nat) (vs:List Value) (w:World) (hlen:vs.length=n * 1) (hbig:n * 8≤140737488355328) (hsc:∀ u∈vs,scal u=true) (hc:∀ j u,vs[j]?=some u→w.cell? ⟨b,off+j,none⟩=some u) :
 Calls Tryz.prog 95 #[.slice (some ⟨b,off,none⟩) n c] w fun e w'=>∃ v',e=.returned v'∧w'.ownsRow w.heap.size 3 1 v' n vs∧Below w.heap.size w w':=by
 obtain ⟨i0,hi,hz0,hz1,hz2⟩:=info_parts INFO3
 have q30:∀ (w:World) (a:Option Addr) (n c n' c':Nat),(binOp .eql 30 (.slice a n c) (.slice none n' c')).run Tryz.prog w=.ok (.bool a.isNone) w:=fun w a n c n' c'=>Lib.run_eql_slice_nil w _ _ a n c n' c' Tryz.underlying30
 have u30:∀ w,Sem.run Tryz.prog (underlying 30) w=.ok (TypeDesc.slice 3) w:=run_underlying Tryz.underlying30
 have A:Aside (∀ j u,vs[j]?=some u→w.cell? ⟨b,off+j,none⟩=some u):=hc
 clear hc
 go_enter Tryz.func95,Tryz.ntmps95
 go_wp2_with (at_builtin;refine wpList_append_own _ rfl _ _ 30 rfl w.heap.size 3 i0 (.int .i64 0) 1 8 Tryz.underlying30 hi hz0 hz1 hz2 rfl (by decide) _ _ _ rfl (World.ownsRow_made w #[] 0 (Nat.le_refl _) (Nat.zero_le _) rfl) ⟨b,off,none⟩ n c vs rfl ?qc1 ?qc2 ?qc3 ?qc4 ?qc5 ?qc6 ?_)
 case qc1=>exact hlen
 case qc2 =>
  intro j u hj
  rw [Addr.add_lit]
  exact Lib.cell?_alloc_some _ (A.out j u hj)
 case qc3 =>
  intro u hu
  have:=hsc u hu
  cases u <;> first | rfl | cases this
 case qc4=>unfold maxLen;omega
 case qc5=>omega
 case qc6=>simp
 intro v' w1 hown hgrow hnil
 go_wp2
 go_ret
 refine ⟨_,rfl,by simpa using hown,?_⟩
 refine ⟨hgrow.os,hgrow.tape,hgrow.output,?_,fun k hk=>?_⟩
 ·have:=hgrow.size;rw [World.size_alloc] at this;omega
 ·rw [hgrow.block k (by rw [World.size_alloc];omega) (by simp [Value.ownBlock];omega),zgi w _ hk]

def C95:List AV→Option AV:=specP (X:=List Int × Unit) fun x=>zaq x.1
theorem C95_eq {s:List Int} {y} (h:zaq s=some y):C95 [av .shr s]=some (Res.res y):=zah (X:=List Int × Unit) (F:=fun x=>zaq x.1) (x:=(s,())) h
theorem pc95:PC Tryz.prog 95 C95 :=
 pc_clone (α:=Int) (e:=3) (bytes:=8) ⟨Tryz.f95,Tryz.func95,by kernel_rfl,by kernel_rfl⟩ clone95_nil
  (fun a c w=>(clone95_zero a c w).mono fun e w' h=>by
   obtain ⟨b,rfl,rfl⟩:=h
   exact ⟨b,rfl,rfl,rfl,rfl,by rw [World.size_alloc];omega,fun k hk=>zgi w _ hk⟩)
  clone95_row
end Go.Proofs


set_option maxHeartbeats 4000000
set_option maxRecDepth 100000
namespace Go.Proofs
open Go.Ev
def C5:List AV→Option AV:=specP (X:=(List U8) × Unit) fun x=>laws_big x.1
theorem C5_eq {code} {y} (h:laws_big code=some y):C5 [av .shr code]=some (Res.res y):=zah (x:=(code,())) h
def g5:Cfg:={ P:=Tryz.prog,take:=[],keep:=[],gho:=[],ctx:=[] }
@[simp] theorem g5_s:type_of% (cfg_s (g:=g5) rfl):=cfg_s rfl
theorem w5 {code} {y} (hp:laws_big code=some y):∃ m,callo g5 0 5 [av .shr code] mem0=some (Res.res y,m):=by
 refine st0 [.tmp 2] Tryz.func5 ?_
 unfold laws_big at hp
 cases hp
 simp [Tryz.f5,Goal,FnEnd]
theorem pc5:PC Tryz.prog 5 C5:=pc_of (g:=g5) (zai [] rfl trivial) (ent Tryz.func5) fun x y h=>w5 h

def C35:List AV→Option (List C):=specN (X:=(List U8) × Unit) (T:=TL1Cur) fun x=>zfd x.1
theorem C35_eq {code} {y} (h:zfd code=some y):C35 [av .shr code]=some (bxT y):=specN_eq (X:=(List U8) × Unit) (T:=TL1Cur) (F:=fun x=>zfd x.1) (x:=(code,())) h
def g35:Cfg:={ P:=Tryz.prog,take:=[],keep:=[((35,3),{ hd:=[0,3,4],bx:=[],ex:=[0,3],rt:=[2] })],gho:=[],ctx:=[] }
@[simp] theorem g35_s:type_of% (cfg_s (g:=g35) rfl):=cfg_s rfl
theorem w35 {code} {y} (hp:zfd code=some y):∃ out σ,evo g35 1 35 (Tryz.f35.body.getD .skip) { env:=fun t=>(([av .shr code]:List AV)[t]?).getD .dead,mem:=mem0 }=some out∧out.done=some σ∧σ.env 2=.one (.ptr (1,31) 0)∧σ.mem (1,31)=some (bxT y):=by
 refine start_N ?_
 unfold zfd at hp
 simp [Tryz.f35]
 obtain ⟨r_15,h_16,hp⟩:=zab hp
 obtain ⟨I_3,I_3_⟩:=exV fun (s_1:Int × Int) (σ:St)=>(σ.env 0=uL .shr code∧σ.env 3=uI s_1.1∧σ.env 4=uI s_1.2)∧NoBox [] σ.mem
 obtain ⟨X_4,X_4_⟩:=exV fun (r_15:Int) (out:Out)=>∃ σ:St,out=.exit 0 σ∧(σ.env 0=uL .shr code∧σ.env 3=uI r_15)∧NoBox [] σ.mem
 refine loopP ({ hd:=[0,3,4],bx:=[],ex:=[0,3],rt:=[2] }) I_3 X_4 h_16 (by exact rfl) ?_ ?_ ?_
 ·rw [I_3_]
  exact ⟨by simp [zac,zaa],NoBox.restrict (by intro k hk hb;simp at hk hb;simp [hk,hb])⟩
 ·intro s_1 σ_5 a_2 hI hp
  rw [I_3_] at hI
  obtain ⟨q_7,hn_6⟩:=hI
  try simp [q_7]
  rcases zad hp with ⟨h_8,hp⟩|⟨h_8,hp⟩
  ·try simp at h_8
   try simp [q_7,h_8]
   rcases zad hp with ⟨h_9,hp⟩|⟨h_9,hp⟩
   ·try simp at h_9
    obtain ⟨e_10,h_11,hp⟩:=zab hp
    have b_12:=at_lo h_11
    have b_13:=at_hi h_11
    try simp at b_12 b_13
    have c_14:=seg_at' h_11 0 1 (by decide) (ds:=[.sc (.int .u8 e_10.v)]) rfl
    try simp at c_14
    cases hp
    try simp [q_7,h_8,h_9,b_12,b_13,c_14,zpu Tryz.underlying5 Tryz.underlying3]
    refine zae ?_
    rw [I_3_]
    exact ⟨by simp [zac,zaa,q_7,h_8,h_9,b_12,b_13,c_14,zpu Tryz.underlying5 Tryz.underlying3],NoBox.restrict (by intro k hk hb;simp at hk hb;simp [hk,hb,q_7,h_8,h_9,b_12,b_13,c_14,zpu Tryz.underlying5 Tryz.underlying3,hn_6 k (by simp [hk,hb])])⟩
   ·try simp at h_9
    cases hp
    try simp [q_7,h_8,h_9]
    refine zag ?_
    rw [X_4_]
    exact ⟨_,rfl,by simp [zac,zaa,q_7,h_8,h_9],NoBox.restrict (by intro k hk hb;simp at hk hb;simp [hk,hb,q_7,h_8,h_9,hn_6 k (by simp [hk,hb])])⟩
  ·try simp at h_8
   cases hp
   try simp [q_7,h_8]
   refine zag ?_
   rw [X_4_]
   exact ⟨_,rfl,by simp [zac,zaa,q_7,h_8],NoBox.restrict (by intro k hk hb;simp at hk hb;simp [hk,hb,q_7,h_8,hn_6 k (by simp [hk,hb])])⟩
 ·intro out hX
  rw [X_4_] at hX
  obtain ⟨σ_17,rfl,q_19,hn_18⟩:=hX
  have n_20:=hn_18 (1,31) (by simp)
  cases hp
  simp [Goal,FnEndN,Out.done,q_19,n_20]
theorem bc35:BC Tryz.prog 35 C35:=bc_of (g:=g35) (zai [] rfl trivial) Tryz.func35 (by kernel_rfl) (by kernel_rfl) rfl (fun x=>by show _≤32;simp [Args.args]) fun x y h=>w35 h

def C66:List AV→Option AV:=specP (X:=Int × Int × Int × Unit) fun x=>zav x.1 x.2.1 x.2.2.1
theorem zfw {x_ lo hi} {y} (h:zav x_ lo hi=some y):C66 [av .shr x_,av .shr lo,av .shr hi]=some (Res.res y):=zah (x:=(x_,lo,hi,())) h
def g66:Cfg:={ P:=Tryz.prog,take:=[],keep:=[],gho:=[],ctx:=[] }
@[simp] theorem g66_s:type_of% (cfg_s (g:=g66) rfl):=cfg_s rfl
theorem w66 {x_ lo hi} {y} (hp:zav x_ lo hi=some y):∃ m,callo g66 0 66 [av .shr x_,av .shr lo,av .shr hi] mem0=some (Res.res y,m):=by
 refine st0 [.tmp 6] Tryz.func66 ?_
 unfold zav at hp
 simp [Tryz.f66]
 rcases zad hp with ⟨h_1,hp⟩|⟨h_1,hp⟩
 ·try simp at h_1
  cases hp
  simp [Goal,FnEnd,h_1]
 ·try simp at h_1
  cases hp
  simp [Goal,FnEnd,h_1]
theorem pc66:PC Tryz.prog 66 C66:=pc_of (g:=g66) (zai [] rfl trivial) (ent Tryz.func66) fun x y h=>w66 h

def C75:List AV→Option AV:=specP (X:=THeap × Unit) fun x=>zdv x.1
theorem C75_eq {h_} {y} (h:zdv h_=some y):C75 [av .shr h_]=some (Res.res y):=zah (x:=(h_,())) h
def g75:Cfg:={ P:=Tryz.prog,take:=[],keep:=[((75,2),{ hd:=[1,3],bx:=[],ex:=[1],rt:=[2] }),((75,7),{ hd:=[1,4],bx:=[],ex:=[],rt:=[2] })],gho:=[],ctx:=[(66,C66)] }
@[simp] theorem g75_s:type_of% (cfg_s (g:=g75) rfl):=cfg_s rfl
theorem w75 {h_} {y} (hp:zdv h_=some y):∃ m,callo g75 0 75 [av .shr h_] mem0=some (Res.res y,m):=by
 refine st0 [.tmp 2] Tryz.func75 ?_
 unfold zdv at hp
 simp [Tryz.f75]
 obtain ⟨r_18,h_19,hp⟩:=zab hp
 obtain ⟨I_3,I_3_⟩:=exV fun (s_1:Int) (σ:St)=>(σ.env 1=uP (1,1)∧σ.env 3=uI s_1∧σ.mem (1,1)=some [cL .shr h_.vars,cL .shr h_.next])∧NoBox [(1,1)] σ.mem
 obtain ⟨X_4,X_4_⟩:=exV fun (r_18:(Unit) ⊕ (Unit)) (out:Out)=>Sum.elim (fun r_18=>∃ σ:St,out=.ret σ∧(σ.env 2=uB false∧σ.mem (1,1)=some [cL .shr h_.vars,cL .shr h_.next])∧NoBox [(1,1)] σ.mem) (fun r_18=>∃ σ:St,out=.exit 0 σ∧(σ.env 1=uP (1,1)∧σ.mem (1,1)=some [cL .shr h_.vars,cL .shr h_.next])∧NoBox [(1,1)] σ.mem) r_18
 refine loopP ({ hd:=[1,3],bx:=[],ex:=[1],rt:=[2] }) I_3 X_4 h_19 (by exact rfl) ?_ ?_ ?_
 ·rw [I_3_]
  exact ⟨by simp [zac,zaa],NoBox.restrict (by intro k hk hb;simp at hk hb;simp [hk,hb])⟩
 ·intro s_1 σ_5 a_2 hI hp
  rw [I_3_] at hI
  obtain ⟨q_7,hn_6⟩:=hI
  try simp [q_7]
  rcases zad hp with ⟨h_8,hp⟩|⟨h_8,hp⟩
  ·try simp at h_8
   obtain ⟨e_9,h_10,hp⟩:=zab hp
   have b_11:=at_lo h_10
   have b_12:=at_hi h_10
   try simp at b_11 b_12
   have c_13:=seg_at' h_10 0 1 (by decide) (ds:=[.sc (.int .i64 e_9)]) rfl
   try simp at c_13
   obtain ⟨y_14,h_15,hp⟩:=zab hp
   have c_16:=zfw h_15
   simp at c_16
   try simp [q_7,h_8,b_11,b_12,c_13,c_16]
   rcases zad hp with ⟨h_17,hp⟩|⟨h_17,hp⟩
   ·try simp at h_17
    cases hp
    try simp [q_7,h_8,h_17]
    refine zae ?_
    rw [I_3_]
    exact ⟨by simp [zac,zaa,q_7,h_8,h_17],NoBox.restrict (by intro k hk hb;simp at hk hb;simp [hk,hb,q_7,h_8,h_17,hn_6 k (by simp [hk,hb])])⟩
   ·try simp at h_17
    cases hp
    try simp [q_7,h_8,h_17]
    refine zal ?_
    rw [X_4_]
    exact ⟨_,rfl,by simp [zac,zaa,q_7,h_8,h_17],NoBox.restrict (by intro k hk hb;simp at hk hb;simp [hk,hb,q_7,h_8,h_17,hn_6 k (by simp [hk,hb])])⟩
  ·try simp at h_8
   cases hp
   try simp [q_7,h_8]
   refine zag ?_
   rw [X_4_]
   exact ⟨_,rfl,by simp [zac,zaa,q_7,h_8],NoBox.restrict (by intro k hk hb;simp at hk hb;simp [hk,hb,q_7,h_8,hn_6 k (by simp [hk,hb])])⟩
 ·intro out hX
  rw [X_4_] at hX
  rcases r_18 with r_18 | r_18
  ·simp only [Sum.elim_inl,Sum.elim_inr] at hX hp
   obtain ⟨σ_20,rfl,q_22,hn_21⟩:=hX
   cases hp
   simp [Goal,FnEnd,q_22]
  ·simp only [Sum.elim_inl,Sum.elim_inr] at hX hp
   obtain ⟨σ_23,rfl,q_25,hn_24⟩:=hX
   try simp [q_25]
   obtain ⟨r_43,h_44,hp⟩:=zab hp
   obtain ⟨I_28,I_28_⟩:=exV fun (s_26:Int) (σ:St)=>(σ.env 1=uP (1,1)∧σ.env 4=uI s_26∧σ.mem (1,1)=some [cL .shr h_.vars,cL .shr h_.next])∧NoBox [(1,1)] σ.mem
   obtain ⟨X_29,X_29_⟩:=exV fun (r_43:(Bool) ⊕ (Unit)) (out:Out)=>Sum.elim (fun r_43=>∃ σ:St,out=.ret σ∧(σ.env 2=uB r_43∧σ.mem (1,1)=some [cL .shr h_.vars,cL .shr h_.next])∧NoBox [(1,1)] σ.mem) (fun r_43=>∃ σ:St,out=.exit 2 σ∧σ.mem (1,1)=some [cL .shr h_.vars,cL .shr h_.next]∧NoBox [(1,1)] σ.mem) r_43
   refine loopP ({ hd:=[1,4],bx:=[],ex:=[],rt:=[2] }) I_28 X_29 h_44 (by exact rfl) ?_ ?_ ?_
   ·rw [I_28_]
    exact ⟨by simp [zac,zaa,q_25],NoBox.restrict (by intro k hk hb;simp at hk hb;simp [hk,hb,q_25,hn_24 k (by simp [hk,hb])])⟩
   ·intro s_26 σ_30 a_27 hI hp
    rw [I_28_] at hI
    obtain ⟨q_32,hn_31⟩:=hI
    try simp [q_32]
    rcases zad hp with ⟨h_33,hp⟩|⟨h_33,hp⟩
    ·try simp at h_33
     obtain ⟨e_34,h_35,hp⟩:=zab hp
     have b_36:=at_lo h_35
     have b_37:=at_hi h_35
     try simp at b_36 b_37
     have c_38:=seg_at' h_35 0 1 (by decide) (ds:=[.sc (.int .i64 e_34)]) rfl
     try simp at c_38
     obtain ⟨y_39,h_40,hp⟩:=zab hp
     have c_41:=zfw h_40
     simp at c_41
     try simp [q_32,h_33,b_36,b_37,c_38,c_41]
     rcases zad hp with ⟨h_42,hp⟩|⟨h_42,hp⟩
     ·try simp at h_42
      cases hp
      try simp [q_32,h_33,h_42]
      refine zae ?_
      rw [I_28_]
      exact ⟨by simp [zac,zaa,q_32,h_33,h_42],NoBox.restrict (by intro k hk hb;simp at hk hb;simp [hk,hb,q_32,h_33,h_42,hn_31 k (by simp [hk,hb])])⟩
     ·try simp at h_42
      cases hp
      try simp [q_32,h_33,h_42]
      refine zal ?_
      rw [X_29_]
      exact ⟨_,rfl,by simp [zac,zaa,q_32,h_33,h_42],NoBox.restrict (by intro k hk hb;simp at hk hb;simp [hk,hb,q_32,h_33,h_42,hn_31 k (by simp [hk,hb])])⟩
    ·try simp at h_33
     cases hp
     try simp [q_32,h_33]
     refine zag ?_
     rw [X_29_]
     exact ⟨_,rfl,by simp [zac,zaa,q_32,h_33],NoBox.restrict (by intro k hk hb;simp at hk hb;simp [hk,hb,q_32,h_33,hn_31 k (by simp [hk,hb])])⟩
   ·intro out hX
    rw [X_29_] at hX
    rcases r_43 with r_43 | r_43
    ·simp only [Sum.elim_inl,Sum.elim_inr] at hX hp
     obtain ⟨σ_45,rfl,q_47,hn_46⟩:=hX
     cases hp
     simp [Goal,FnEnd,q_47]
    ·simp only [Sum.elim_inl,Sum.elim_inr] at hX hp
     obtain ⟨σ_48,rfl,q_50,hn_49⟩:=hX
     cases hp
     simp [Goal,FnEnd,q_50]
theorem pc75:PC Tryz.prog 75 C75:=pc_of (g:=g75) (zai _ g75_s.2.1 ⟨pc66,trivial⟩) (ent Tryz.func75) fun x y h=>w75 h

def C86:List AV→Option AV:=specP (X:=(List Int) × Int × Unit) fun x=>zca x.1 x.2.1
theorem C86_eq {list n_} {y} (h:zca list n_=some y):C86 [av .shr list,av .shr n_]=some (Res.res y):=zah (x:=(list,n_,())) h
def g86:Cfg:={ P:=Tryz.prog,take:=[(86,20),(86,24)],keep:=[((86,3),{ hd:=[0,1,5,6],bx:=[],ex:=[5],rt:=[4] })],gho:=[],ctx:=[] }
@[simp] theorem g86_s:type_of% (cfg_s (g:=g86) rfl):=cfg_s rfl
theorem w86 {list n_} {y} (hp:zca list n_=some y):∃ m,callo g86 0 86 [av .shr list,av .shr n_] mem0=some (Res.res y,m):=by
 refine st0 [.tmp 4] Tryz.func86 ?_
 unfold zca at hp
 simp [Tryz.f86]
 obtain ⟨r_17,h_18,hp⟩:=zab hp
 obtain ⟨I_3,I_3_⟩:=exV fun (s_1:(List Int) × Int) (σ:St)=>(σ.env 0=uL .shr list∧σ.env 1=uI n_∧σ.env 5=uL .own s_1.1∧σ.env 6=uI s_1.2)∧σ.mem=mem0
 obtain ⟨X_4,X_4_⟩:=exV fun (r_17:(List Int)) (out:Out)=>∃ σ:St,out=.exit 0 σ∧σ.env 5=uL .own r_17∧σ.mem=mem0
 refine loopP ({ hd:=[0,1,5,6],bx:=[],ex:=[5],rt:=[4] }) I_3 X_4 h_18 (by exact rfl) ?_ ?_ ?_
 ·rw [I_3_]
  exact ⟨by simp [zac,zaa],by simp [zaa]⟩
 ·intro s_1 σ_5 a_2 hI hp
  rw [I_3_] at hI
  obtain ⟨q_7,q_6⟩:=hI
  try simp [q_7,q_6]
  rcases zad hp with ⟨h_8,hp⟩|⟨h_8,hp⟩
  ·try simp at h_8
   obtain ⟨e_9,h_10,hp⟩:=zab hp
   have b_11:=at_lo h_10
   have b_12:=at_hi h_10
   try simp at b_11 b_12
   have c_13:=seg_at' h_10 0 1 (by decide) (ds:=[.sc (.int .i64 e_9)]) rfl
   try simp at c_13
   try simp [q_7,q_6,h_8,b_11,b_12,c_13]
   rcases zad hp with ⟨h_14,hp⟩|⟨h_14,hp⟩
   ·try simp at h_14
    obtain ⟨_,h_15,hp⟩:=zab hp
    have b_16:=zap h_15
    try simp at b_16
    cases hp
    try simp [q_7,q_6,h_8,h_14,b_16]
    refine zae ?_
    rw [I_3_]
    exact ⟨by simp [zac,zaa,q_7,q_6,h_8,h_14,b_16],by simp [zaa,q_7,q_6,h_8,h_14,b_16]⟩
   ·try simp at h_14
    cases hp
    try simp [q_7,q_6,h_8,h_14]
    refine zae ?_
    rw [I_3_]
    exact ⟨by simp [zac,zaa,q_7,q_6,h_8,h_14],by simp [zaa,q_7,q_6,h_8,h_14]⟩
  ·try simp at h_8
   cases hp
   try simp [q_7,q_6,h_8]
   refine zag ?_
   rw [X_4_]
   exact ⟨_,rfl,by simp [zac,zaa,q_7,q_6,h_8],by simp [zaa,q_7,q_6,h_8]⟩
 ·intro out hX
  rw [X_4_] at hX
  obtain ⟨σ_19,rfl,q_21,q_20⟩:=hX
  cases hp
  simp [Goal,FnEnd,q_21,q_20]
theorem pc86:PC Tryz.prog 86 C86:=pc_of (g:=g86) (zai [] rfl trivial) (ent Tryz.func86) fun x y h=>w86 h

def C87:List AV→Option AV:=specP (X:=(List Int) × Int × Unit) fun x=>zcl x.1 x.2.1
theorem C87_eq {list n_} {y} (h:zcl list n_=some y):C87 [av .shr list,av .shr n_]=some (Res.res y):=zah (x:=(list,n_,())) h
def g87:Cfg:={ P:=Tryz.prog,take:=[],keep:=[],gho:=[],ctx:=[(86,C86)] }
@[simp] theorem g87_s:type_of% (cfg_s (g:=g87) rfl):=cfg_s rfl
theorem w87 {list n_} {y} (hp:zcl list n_=some y):∃ m,callo g87 0 87 [av .shr list,av .shr n_] mem0=some (Res.res y,m):=by
 refine st0 [.tmp 4] Tryz.func87 ?_
 unfold zcl at hp
 obtain ⟨y_1,h_2,hp⟩:=zab hp
 have c_3:=C86_eq h_2
 simp at c_3
 cases hp
 simp [Tryz.f87,Goal,FnEnd,c_3]
theorem pc87:PC Tryz.prog 87 C87:=pc_of (g:=g87) (zai _ g87_s.2.1 ⟨pc86,trivial⟩) (ent Tryz.func87) fun x y h=>w87 h

def C88:List AV→Option AV:=specP (X:=THeap × Int × Unit) fun x=>zcy x.1 x.2.1
theorem C88_eq {h_ cell} {y} (h:zcy h_ cell=some y):C88 [av .shr h_,av .shr cell]=some (Res.res y):=zah (x:=(h_,cell,())) h
def g88:Cfg:={ P:=Tryz.prog,take:=[(88,23),(88,32)],keep:=[((88,2),{ hd:=[1,2,5],bx:=[],ex:=[5],rt:=[4] })],gho:=[],ctx:=[(66,C66),(87,C87)] }
@[simp] theorem g88_s:type_of% (cfg_s (g:=g88) rfl):=cfg_s rfl
theorem w88 {h_ cell} {y} (hp:zcy h_ cell=some y):∃ m,callo g88 0 88 [av .shr h_,av .shr cell] mem0=some (Res.res y,m):=by
 refine st0 [.tmp 4] Tryz.func88 ?_
 unfold zcy at hp
 simp [Tryz.f88]
 obtain ⟨r_24,h_25,hp⟩:=zab hp
 obtain ⟨I_3,I_3_⟩:=exV fun (s_1:Int × (List Int)) (σ:St)=>(σ.env 1=uI s_1.1∧σ.env 2=uP (1,2)∧σ.env 5=uL .own s_1.2∧σ.mem (1,2)=some [cL .shr h_.vars,cL .shr h_.next])∧NoBox [(1,2)] σ.mem
 obtain ⟨X_4,X_4_⟩:=exV fun (r_24:((List Int)) ⊕ (Unit)) (out:Out)=>Sum.elim (fun r_24=>∃ σ:St,out=.exit 0 σ∧(σ.env 5=uL .own r_24∧σ.mem (1,2)=some [cL .shr h_.vars,cL .shr h_.next])∧NoBox [(1,2)] σ.mem) (fun r_24=>∃ σ:St,out=.ret σ∧(σ.env 4=.one (.l .own 0 [])∧σ.mem (1,2)=some [cL .shr h_.vars,cL .shr h_.next])∧NoBox [(1,2)] σ.mem) r_24
 refine loopP ({ hd:=[1,2,5],bx:=[],ex:=[5],rt:=[4] }) I_3 X_4 h_25 (by exact rfl) ?_ ?_ ?_
 ·rw [I_3_]
  exact ⟨by simp [zac,zaa],NoBox.restrict (by intro k hk hb;simp at hk hb;simp [hk,hb])⟩
 ·intro s_1 σ_5 a_2 hI hp
  rw [I_3_] at hI
  obtain ⟨q_7,hn_6⟩:=hI
  try simp [q_7]
  rcases zad hp with ⟨h_8,hp⟩|⟨h_8,hp⟩
  ·try simp at h_8
   obtain ⟨y_9,h_10,hp⟩:=zab hp
   have c_11:=C87_eq h_10
   simp at c_11
   try simp [q_7,h_8,c_11]
   rcases zad hp with ⟨h_12,hp⟩|⟨h_12,hp⟩
   ·try simp at h_12
    cases hp
    try simp [q_7,h_8,h_12]
    refine zag ?_
    rw [X_4_]
    exact ⟨_,rfl,by simp [zac,zaa,q_7,h_8,h_12],NoBox.restrict (by intro k hk hb;simp at hk hb;simp [hk,hb,q_7,h_8,h_12,hn_6 k (by simp [hk,hb])])⟩
   ·try simp at h_12
    obtain ⟨y_13,h_14,hp⟩:=zab hp
    have c_15:=zfw h_14
    simp at c_15
    try simp [q_7,h_8,h_12,c_15]
    rcases zad hp with ⟨h_16,hp⟩|⟨h_16,hp⟩
    ·try simp at h_16
     obtain ⟨_,h_17,hp⟩:=zab hp
     have b_18:=zap h_17
     try simp at b_18
     obtain ⟨e_19,h_20,hp⟩:=zab hp
     have b_21:=at_lo h_20
     have b_22:=at_hi h_20
     try simp at b_21 b_22
     have c_23:=seg_at' h_20 0 1 (by decide) (ds:=[.sc (.int .i64 e_19)]) rfl
     try simp at c_23
     cases hp
     try simp [q_7,h_8,h_12,h_16,b_18,b_21,b_22,c_23]
     refine zae ?_
     rw [I_3_]
     exact ⟨by simp [zac,zaa,q_7,h_8,h_12,h_16,b_18,b_21,b_22,c_23],NoBox.restrict (by intro k hk hb;simp at hk hb;simp [hk,hb,q_7,h_8,h_12,h_16,b_18,b_21,b_22,c_23,hn_6 k (by simp [hk,hb])])⟩
    ·try simp at h_16
     cases hp
     try simp [q_7,h_8,h_12,h_16]
     refine zal ?_
     rw [X_4_]
     exact ⟨_,rfl,by simp [zac,zaa,q_7,h_8,h_12,h_16],NoBox.restrict (by intro k hk hb;simp at hk hb;simp [hk,hb,q_7,h_8,h_12,h_16,hn_6 k (by simp [hk,hb])])⟩
  ·try simp at h_8
   cases hp
   try simp [q_7,h_8]
   refine zag ?_
   rw [X_4_]
   exact ⟨_,rfl,by simp [zac,zaa,q_7,h_8],NoBox.restrict (by intro k hk hb;simp at hk hb;simp [hk,hb,q_7,h_8,hn_6 k (by simp [hk,hb])])⟩
 ·intro out hX
  rw [X_4_] at hX
  rcases r_24 with r_24 | r_24
  ·simp only [Sum.elim_inl,Sum.elim_inr] at hX hp
   obtain ⟨σ_26,rfl,q_28,hn_27⟩:=hX
   cases hp
   simp [Goal,FnEnd,q_28]
  ·simp only [Sum.elim_inl,Sum.elim_inr] at hX hp
   obtain ⟨σ_29,rfl,q_31,hn_30⟩:=hX
   cases hp
   simp [Goal,FnEnd,q_31]
theorem pc88:PC Tryz.prog 88 C88:=pc_of (g:=g88) (zai _ g88_s.2.1 ⟨pc66,pc87,trivial⟩) (ent Tryz.func88) fun x y h=>w88 h

def C77:List AV→Option AV:=specP (X:=THeap × Unit) fun x=>zeo x.1
theorem C77_eq {h_} {y} (h:zeo h_=some y):C77 [av .shr h_]=some (Res.res y):=zah (x:=(h_,())) h
def g77:Cfg:={ P:=Tryz.prog,take:=[(77,35),(77,42)],keep:=[((77,3),{ hd:=[1,3,4],bx:=[],ex:=[3],rt:=[2] }),((77,7),{ hd:=[1,3,4,5,6],bx:=[],ex:=[1,3,4],rt:=[2] })],gho:=[],ctx:=[(87,C87),(88,C88)] }
@[simp] theorem g77_s:type_of% (cfg_s (g:=g77) rfl):=cfg_s rfl
theorem w77 {h_} {y} (hp:zeo h_=some y):∃ m,callo g77 0 77 [av .shr h_] mem0=some (Res.res y,m):=by
 refine st0 [.tmp 2] Tryz.func77 ?_
 unfold zeo at hp
 simp [Tryz.f77]
 obtain ⟨r_46,h_47,hp⟩:=zab hp
 obtain ⟨I_3,I_3_⟩:=exV fun (s_1:(List Int) × Int) (σ:St)=>(σ.env 1=uP (1,1)∧σ.env 3=uL .own s_1.1∧σ.env 4=uI s_1.2∧σ.mem (1,1)=some [cL .shr h_.vars,cL .shr h_.next])∧NoBox [(1,1)] σ.mem
 obtain ⟨X_4,X_4_⟩:=exV fun (r_46:(List Int)) (out:Out)=>∃ σ:St,out=.exit 0 σ∧(σ.env 3=uL .own r_46∧σ.mem (1,1)=some [cL .shr h_.vars,cL .shr h_.next])∧NoBox [(1,1)] σ.mem
 refine loopP ({ hd:=[1,3,4],bx:=[],ex:=[3],rt:=[2] }) I_3 X_4 h_47 (by exact rfl) ?_ ?_ ?_
 ·rw [I_3_]
  exact ⟨by simp [zac,zaa],NoBox.restrict (by intro k hk hb;simp at hk hb;simp [hk,hb])⟩
 ·intro s_1 σ_5 a_2 hI hp
  rw [I_3_] at hI
  obtain ⟨q_7,hn_6⟩:=hI
  try simp [q_7]
  rcases zad hp with ⟨h_8,hp⟩|⟨h_8,hp⟩
  ·try simp at h_8
   obtain ⟨e_9,h_10,hp⟩:=zab hp
   have b_11:=at_lo h_10
   have b_12:=at_hi h_10
   try simp at b_11 b_12
   have c_13:=seg_at' h_10 0 1 (by decide) (ds:=[.sc (.int .i64 e_9)]) rfl
   try simp at c_13
   obtain ⟨y_14,h_15,hp⟩:=zab hp
   have c_16:=C88_eq h_15
   simp at c_16
   try simp [q_7,h_8,b_11,b_12,c_13,c_16]
   obtain ⟨r_41,h_42,hp⟩:=zab hp
   obtain ⟨I_19,I_19_⟩:=exV fun (s_17:Int × (List Int)) (σ:St)=>(σ.env 1=uP (1,1)∧σ.env 3=uL .own s_17.2∧σ.env 4=uI s_1.2∧σ.env 5=uL .own y_14∧σ.env 6=uI s_17.1∧σ.mem (1,1)=some [cL .shr h_.vars,cL .shr h_.next])∧NoBox [(1,1)] σ.mem
   obtain ⟨X_20,X_20_⟩:=exV fun (r_41:(List Int)) (out:Out)=>∃ σ:St,out=.exit 2 σ∧(σ.env 1=uP (1,1)∧σ.env 3=uL .own r_41∧σ.env 4=uI s_1.2∧σ.mem (1,1)=some [cL .shr h_.vars,cL .shr h_.next])∧NoBox [(1,1)] σ.mem
   refine loopP ({ hd:=[1,3,4,5,6],bx:=[],ex:=[1,3,4],rt:=[2] }) I_19 X_20 h_42 (by exact rfl) ?_ ?_ ?_
   ·rw [I_19_]
    exact ⟨by simp [zac,zaa,q_7,h_8],NoBox.restrict (by intro k hk hb;simp at hk hb;simp [hk,hb,q_7,h_8,hn_6 k (by simp [hk,hb])])⟩
   ·intro s_17 σ_21 a_18 hI hp
    rw [I_19_] at hI
    obtain ⟨q_23,hn_22⟩:=hI
    try simp [h_8,q_23]
    rcases zad hp with ⟨h_24,hp⟩|⟨h_24,hp⟩
    ·try simp at h_24
     obtain ⟨e_25,h_26,hp⟩:=zab hp
     have b_27:=at_lo h_26
     have b_28:=at_hi h_26
     try simp at b_27 b_28
     have c_29:=seg_at' h_26 0 1 (by decide) (ds:=[.sc (.int .i64 e_25)]) rfl
     try simp at c_29
     obtain ⟨y_30,h_31,hp⟩:=zab hp
     have c_32:=C87_eq h_31
     simp at c_32
     try simp [h_8,q_23,h_24,b_27,b_28,c_29,c_32]
     rcases zad hp with ⟨h_33,hp⟩|⟨h_33,hp⟩
     ·try simp at h_33
      cases hp
      try simp [h_8,q_23,h_24,h_33]
      refine zae ?_
      rw [I_19_]
      exact ⟨by simp [zac,zaa,h_8,q_23,h_24,h_33],NoBox.restrict (by intro k hk hb;simp at hk hb;simp [hk,hb,h_8,q_23,h_24,h_33,hn_22 k (by simp [hk,hb])])⟩
     ·try simp at h_33
      obtain ⟨e_34,h_35,hp⟩:=zab hp
      cases Option.some.inj (h_26.symm.trans h_35)
      have b_36:=at_lo h_26
      have b_37:=at_hi h_26
      try simp at b_36 b_37
      have c_38:=seg_at' h_26 0 1 (by decide) (ds:=[.sc (.int .i64 e_25)]) rfl
      try simp at c_38
      obtain ⟨_,h_39,hp⟩:=zab hp
      have b_40:=zap h_39
      try simp at b_40
      cases hp
      try simp [h_8,q_23,h_24,h_33,b_36,b_37,c_38,b_40]
      refine zae ?_
      rw [I_19_]
      exact ⟨by simp [zac,zaa,h_8,q_23,h_24,h_33,b_36,b_37,c_38,b_40],NoBox.restrict (by intro k hk hb;simp at hk hb;simp [hk,hb,h_8,q_23,h_24,h_33,b_36,b_37,c_38,b_40,hn_22 k (by simp [hk,hb])])⟩
    ·try simp at h_24
     cases hp
     try simp [h_8,q_23,h_24]
     refine zag ?_
     rw [X_20_]
     exact ⟨_,rfl,by simp [zac,zaa,h_8,q_23,h_24],NoBox.restrict (by intro k hk hb;simp at hk hb;simp [hk,hb,h_8,q_23,h_24,hn_22 k (by simp [hk,hb])])⟩
   ·intro out hX
    rw [X_20_] at hX
    obtain ⟨σ_43,rfl,q_45,hn_44⟩:=hX
    cases hp
    try simp [h_8,q_45]
    refine zae ?_
    rw [I_3_]
    exact ⟨by simp [zac,zaa,h_8,q_45],NoBox.restrict (by intro k hk hb;simp at hk hb;simp [hk,hb,h_8,q_45,hn_44 k (by simp [hk,hb])])⟩
  ·try simp at h_8
   cases hp
   try simp [q_7,h_8]
   refine zag ?_
   rw [X_4_]
   exact ⟨_,rfl,by simp [zac,zaa,q_7,h_8],NoBox.restrict (by intro k hk hb;simp at hk hb;simp [hk,hb,q_7,h_8,hn_6 k (by simp [hk,hb])])⟩
 ·intro out hX
  rw [X_4_] at hX
  obtain ⟨σ_48,rfl,q_50,hn_49⟩:=hX
  cases hp
  simp [Goal,FnEnd,q_50]
theorem pc77:PC Tryz.prog 77 C77:=pc_of (g:=g77) (zai _ g77_s.2.1 ⟨pc87,pc88,trivial⟩) (ent Tryz.func77) fun x y h=>w77 h

def C145:List AV→Option AV:=specP (X:=(List Int) × Int × Unit) fun x=>zfb x.1 x.2.1
theorem C145_eq {order cell} {y} (h:zfb order cell=some y):C145 [av .shr order,av .shr cell]=some (Res.res y):=zah (x:=(order,cell,())) h
def g145:Cfg:={ P:=Tryz.prog,take:=[],keep:=[],gho:=[],ctx:=[(86,C86)] }
@[simp] theorem g145_s:type_of% (cfg_s (g:=g145) rfl):=cfg_s rfl
theorem w145 {order cell} {y} (hp:zfb order cell=some y):∃ m,callo g145 0 145 [av .shr order,av .shr cell] mem0=some (Res.res y,m):=by
 refine st0 [.tmp 4] Tryz.func145 ?_
 unfold zfb at hp
 obtain ⟨y_1,h_2,hp⟩:=zab hp
 have c_3:=C86_eq h_2
 simp at c_3
 simp [Tryz.f145,c_3]
 rcases zad hp with ⟨h_4,hp⟩|⟨h_4,hp⟩
 ·try simp at h_4
  cases hp
  simp [Goal,FnEnd,h_4]
 ·try simp at h_4
  obtain ⟨e_5,h_6,hp⟩:=zab hp
  have b_8:=at_hi h_6
  try simp at b_8
  have c_9:=seg_at' h_6 0 1 (by decide) (ds:=[.sc (.int .i64 e_5)]) rfl
  try simp at c_9
  cases hp
  simp [Goal,FnEnd,h_4,b_8,c_9]
theorem pc145:PC Tryz.prog 145 C145:=pc_of (g:=g145) (zai _ g145_s.2.1 ⟨pc86,trivial⟩) (ent Tryz.func145) fun x y h=>w145 h

def C117:List AV→Option AV:=specP (X:=THeap × Unit) fun x=>zeg x.1
theorem C117_eq {h_} {y} (h:zeg h_=some y):C117 [av .shr h_]=some (Res.res y):=zah (x:=(h_,())) h
def g117:Cfg:={ P:=Tryz.prog,take:=[(117,22),(117,40),(117,54)],keep:=[((117,6),{ hd:=[1,2,3,4,5],bx:=[],ex:=[1,2,3,4],rt:=[2] }),((117,10),{ hd:=[1,2,3,4,6],bx:=[],ex:=[2,4],rt:=[2] })],gho:=[],ctx:=[(75,C75),(77,C77),(145,C145)] }
@[simp] theorem g117_s:type_of% (cfg_s (g:=g117) rfl):=cfg_s rfl
theorem w117 {h_} {y} (hp:zeg h_=some y):∃ m,callo g117 0 117 [av .shr h_] mem0=some (Res.res y,m):=by
 refine st0 [.cell 2 36] Tryz.func117 ?_
 unfold zeg at hp
 obtain ⟨y_1,h_2,hp⟩:=zab hp
 have c_3:=C75_eq h_2
 simp at c_3
 simp [Tryz.f117,c_3]
 rcases zad hp with ⟨h_4,hp⟩|⟨h_4,hp⟩
 ·try simp at h_4
  obtain ⟨y_5,h_6,hp⟩:=zab hp
  have c_7:=C77_eq h_6
  simp at c_7
  try simp [h_4,c_7]
  obtain ⟨r_26,h_27,hp⟩:=zab hp
  obtain ⟨I_10,I_10_⟩:=exV fun (s_8:Int × (List Int)) (σ:St)=>(σ.env 1=uP (1,1)∧σ.env 2=uP (1,2)∧σ.env 3=uL .own y_5∧σ.env 4=uP (1,4)∧σ.env 5=uI s_8.1∧σ.mem (1,1)=some [cL .shr h_.vars,cL .shr h_.next]∧σ.mem (1,2)=some [.l .own 0 [],.l .own 0 []]∧σ.mem (1,4)=some [cL .own s_8.2,.l .own 0 []])∧NoBox [(1,1),(1,2),(1,4)] σ.mem
  obtain ⟨X_11,X_11_⟩:=exV fun (r_26:(List Int)) (out:Out)=>∃ σ:St,out=.exit 0 σ∧(σ.env 1=uP (1,1)∧σ.env 2=uP (1,2)∧σ.env 3=uL .own y_5∧σ.env 4=uP (1,4)∧σ.mem (1,1)=some [cL .shr h_.vars,cL .shr h_.next]∧σ.mem (1,2)=some [.l .own 0 [],.l .own 0 []]∧σ.mem (1,4)=some [cL .own r_26,.l .own 0 []])∧NoBox [(1,1),(1,2),(1,4)] σ.mem
  refine loopP ({ hd:=[1,2,3,4,5],bx:=[],ex:=[1,2,3,4],rt:=[2] }) I_10 X_11 h_27 (by exact rfl) ?_ ?_ ?_
  ·rw [I_10_]
   exact ⟨by simp [zac,zaa,h_4],NoBox.restrict (by intro k hk hb;simp at hk hb;simp [hk,hb,h_4])⟩
  ·intro s_8 σ_12 a_9 hI hp
   rw [I_10_] at hI
   obtain ⟨q_14,hn_13⟩:=hI
   try simp [h_4,q_14]
   rcases zad hp with ⟨h_15,hp⟩|⟨h_15,hp⟩
   ·try simp at h_15
    obtain ⟨e_16,h_17,hp⟩:=zab hp
    have b_18:=at_lo h_17
    have b_19:=at_hi h_17
    try simp at b_18 b_19
    have c_20:=seg_at' h_17 0 1 (by decide) (ds:=[.sc (.int .i64 e_16)]) rfl
    try simp at c_20
    obtain ⟨y_21,h_22,hp⟩:=zab hp
    have c_23:=C145_eq h_22
    simp at c_23
    obtain ⟨_,h_24,hp⟩:=zab hp
    have b_25:=zap h_24
    try simp at b_25
    cases hp
    try simp [h_4,q_14,h_15,b_18,b_19,c_20,c_23,b_25]
    refine zae ?_
    rw [I_10_]
    exact ⟨by simp [zac,zaa,h_4,q_14,h_15,b_18,b_19,c_20,c_23,b_25],NoBox.restrict (by intro k hk hb;simp at hk hb;simp [hk,hb,h_4,q_14,h_15,b_18,b_19,c_20,c_23,b_25,hn_13 k (by simp [hk,hb])])⟩
   ·try simp at h_15
    cases hp
    try simp [h_4,q_14,h_15]
    refine zag ?_
    rw [X_11_]
    exact ⟨_,rfl,by simp [zac,zaa,h_4,q_14,h_15],NoBox.restrict (by intro k hk hb;simp at hk hb;simp [hk,hb,h_4,q_14,h_15,hn_13 k (by simp [hk,hb])])⟩
  ·intro out hX
   rw [X_11_] at hX
   obtain ⟨σ_28,rfl,q_30,hn_29⟩:=hX
   try simp [h_4,q_30]
   obtain ⟨r_54,h_55,hp⟩:=zab hp
   obtain ⟨I_33,I_33_⟩:=exV fun (s_31:Int × (List Int)) (σ:St)=>(σ.env 1=uP (1,1)∧σ.env 2=uP (1,2)∧σ.env 3=uL .own y_5∧σ.env 4=uP (1,4)∧σ.env 6=uI s_31.1∧σ.mem (1,1)=some [cL .shr h_.vars,cL .shr h_.next]∧σ.mem (1,2)=some [.l .own 0 [],.l .own 0 []]∧σ.mem (1,4)=some [cL .own r_26,cL .own s_31.2])∧NoBox [(1,1),(1,2),(1,4)] σ.mem
   obtain ⟨X_34,X_34_⟩:=exV fun (r_54:(List Int)) (out:Out)=>∃ σ:St,out=.exit 2 σ∧(σ.env 2=uP (1,2)∧σ.env 4=uP (1,4)∧σ.mem (1,1)=some [cL .shr h_.vars,cL .shr h_.next]∧σ.mem (1,2)=some [.l .own 0 [],.l .own 0 []]∧σ.mem (1,4)=some [cL .own r_26,cL .own r_54])∧NoBox [(1,1),(1,2),(1,4)] σ.mem
   refine loopP ({ hd:=[1,2,3,4,6],bx:=[],ex:=[2,4],rt:=[2] }) I_33 X_34 h_55 (by exact rfl) ?_ ?_ ?_
   ·rw [I_33_]
    exact ⟨by simp [zac,zaa,h_4,q_30],NoBox.restrict (by intro k hk hb;simp at hk hb;simp [hk,hb,h_4,q_30,hn_29 k (by simp [hk,hb])])⟩
   ·intro s_31 σ_35 a_32 hI hp
    rw [I_33_] at hI
    obtain ⟨q_37,hn_36⟩:=hI
    try simp [h_4,q_37]
    rcases zad hp with ⟨h_38,hp⟩|⟨h_38,hp⟩
    ·try simp at h_38
     obtain ⟨e_39,h_40,hp⟩:=zab hp
     have b_41:=at_lo h_40
     have b_42:=at_hi h_40
     try simp at b_41 b_42
     have c_43:=seg_at' h_40 0 1 (by decide) (ds:=[.sc (.int .i64 e_39)]) rfl
     try simp at c_43
     obtain ⟨e_44,h_45,hp⟩:=zab hp
     have b_46:=at_lo h_45
     have b_47:=at_hi h_45
     try simp at b_46 b_47
     have c_48:=seg_at' h_45 0 1 (by decide) (ds:=[.sc (.int .i64 e_44)]) rfl
     try simp at c_48
     obtain ⟨y_49,h_50,hp⟩:=zab hp
     have c_51:=C145_eq h_50
     simp at c_51
     obtain ⟨_,h_52,hp⟩:=zab hp
     have b_53:=zap h_52
     try simp at b_53
     cases hp
     try simp [h_4,q_37,h_38,b_41,b_42,c_43,b_46,b_47,c_48,c_51,b_53]
     refine zae ?_
     rw [I_33_]
     exact ⟨by simp [zac,zaa,h_4,q_37,h_38,b_41,b_42,c_43,b_46,b_47,c_48,c_51,b_53],NoBox.restrict (by intro k hk hb;simp at hk hb;simp [hk,hb,h_4,q_37,h_38,b_41,b_42,c_43,b_46,b_47,c_48,c_51,b_53,hn_36 k (by simp [hk,hb])])⟩
    ·try simp at h_38
     cases hp
     try simp [h_4,q_37,h_38]
     refine zag ?_
     rw [X_34_]
     exact ⟨_,rfl,by simp [zac,zaa,h_4,q_37,h_38],NoBox.restrict (by intro k hk hb;simp at hk hb;simp [hk,hb,h_4,q_37,h_38,hn_36 k (by simp [hk,hb])])⟩
   ·intro out hX
    rw [X_34_] at hX
    obtain ⟨σ_56,rfl,q_58,hn_57⟩:=hX
    cases hp
    simp [Goal,FnEnd,retR,rsrc,RSrc.val,nodupR,nodup,tupPart,h_4,q_58]
 ·try simp at h_4
  cases hp
  simp [Goal,FnEnd,retR,rsrc,RSrc.val,nodupR,nodup,tupPart,h_4]
theorem pc117:PC Tryz.prog 117 C117:=pc_of (g:=g117) (zai _ g117_s.2.1 ⟨pc75,pc77,pc145,trivial⟩) (ent Tryz.func117) fun x y h=>w117 h

def C85:List AV→Option AV:=specP (X:=Bool × Unit) fun x=>zge x.1
theorem C85_eq {on} {y} (h:zge on=some y):C85 [av .shr on]=some (Res.res y):=zah (x:=(on,())) h
def g85:Cfg:={ P:=Tryz.prog,take:=[],keep:=[],gho:=[],ctx:=[] }
@[simp] theorem g85_s:type_of% (cfg_s (g:=g85) rfl):=cfg_s rfl
theorem w85 {on} {y} (hp:zge on=some y):∃ m,callo g85 0 85 [av .shr on] mem0=some (Res.res y,m):=by
 refine st0 [.tmp 2] Tryz.func85 ?_
 unfold zge at hp
 simp [Tryz.f85]
 rcases zad hp with ⟨h_1,hp⟩|⟨h_1,hp⟩
 ·try simp at h_1
  cases hp
  simp [Goal,FnEnd,h_1]
 ·try simp at h_1
  cases hp
  simp [Goal,FnEnd,h_1]
theorem pc85:PC Tryz.prog 85 C85:=pc_of (g:=g85) (zai [] rfl trivial) (ent Tryz.func85) fun x y h=>w85 h

def C45:List AV→Option AV:=specP (X:=THeap × Unit) fun x=>zco x.1
theorem C45_eq {h_} {y} (h:zco h_=some y):C45 [av .shr h_]=some (Res.res y):=zah (x:=(h_,())) h
def g45:Cfg:={ P:=Tryz.prog,take:=[(45,49),(45,62),(45,77),(45,78),(45,88),(45,100)],keep:=[((45,6),{ hd:=[1,2,3,4,5],bx:=[6],ex:=[2,4],rt:=[2] }),((45,10),{ hd:=[1,2,3,4,5,6,7],bx:=[],ex:=[1,2,3,4,5,6],rt:=[2] }),((45,16),{ hd:=[1,2,3,4,5,8],bx:=[],ex:=[1,2,3,4,5],rt:=[2] })],gho:=[],ctx:=[(66,C66),(75,C75),(85,C85),(86,C86),(87,C87),(88,C88)] }
@[simp] theorem g45_s:type_of% (cfg_s (g:=g45) rfl):=cfg_s rfl
theorem w45 {h_} {y} (hp:zco h_=some y):∃ m,callo g45 0 45 [av .shr h_] mem0=some (Res.res y,m):=by
 refine st0 [.cell 2 32] Tryz.func45 ?_
 unfold zco at hp
 obtain ⟨y_1,h_2,hp⟩:=zab hp
 have c_3:=C75_eq h_2
 simp at c_3
 simp [Tryz.f45,c_3]
 rcases zad hp with ⟨h_4,hp⟩|⟨h_4,hp⟩
 ·try simp at h_4
  try simp [h_4]
  rcases zad hp with ⟨h_5,hp⟩|⟨h_5,hp⟩
  ·try simp at h_5
   cases hp
   simp [Goal,FnEnd,retR,rsrc,RSrc.val,nodupR,nodup,tupPart,h_4,h_5]
  ·try simp at h_5
   obtain ⟨y_6,h_7,hp⟩:=zab hp
   have c_8:=zfw h_7
   simp at c_8
   try simp [h_4,h_5,c_8]
   rcases zad hp with ⟨h_9,hp⟩|⟨h_9,hp⟩
   ·try simp at h_9
    try simp [h_4,h_5,h_9]
    obtain ⟨r_89,h_90,hp⟩:=zab hp
    obtain ⟨I_12,I_12_⟩:=exV fun (s_10:Int × (List TNode) × (List Int)) (σ:St)=>(σ.env 1=uP (1,1)∧σ.env 2=uP (1,2)∧σ.env 3=uI (h_.next.length:Int)∧σ.env 4=uP (1,4)∧σ.env 5=uI s_10.1∧σ.mem (1,1)=some [cL .shr h_.vars,cL .shr h_.next]∧σ.mem (1,2)=some [.l .own 0 [],.l .own 0 []]∧σ.mem (1,4)=some [cL .own s_10.2.1,cL .own s_10.2.2])∧NoBox [(1,1),(1,2),(1,4)] σ.mem
    obtain ⟨X_13,X_13_⟩:=exV fun (r_89:(List TNode) × (List Int)) (out:Out)=>∃ σ:St,out=.exit 0 σ∧(σ.env 2=uP (1,2)∧σ.env 4=uP (1,4)∧σ.mem (1,1)=some [cL .shr h_.vars,cL .shr h_.next]∧σ.mem (1,2)=some [.l .own 0 [],.l .own 0 []]∧σ.mem (1,4)=some [cL .own r_89.1,cL .own r_89.2])∧NoBox [(1,1),(1,2),(1,4)] σ.mem
    refine loopP ({ hd:=[1,2,3,4,5],bx:=[6],ex:=[2,4],rt:=[2] }) I_12 X_13 h_90 (by exact rfl) ?_ ?_ ?_
    ·rw [I_12_]
     exact ⟨by simp [zac,zaa,h_4,h_5,h_9],NoBox.restrict (by intro k hk hb;simp at hk hb;simp [hk,hb,h_4,h_5,h_9])⟩
    ·intro s_10 σ_14 a_11 hI hp
     rw [I_12_] at hI
     obtain ⟨q_16,hn_15⟩:=hI
     try simp [h_4,h_5,h_9,q_16]
     rcases zad hp with ⟨h_17,hp⟩|⟨h_17,hp⟩
     ·try simp at h_17
      obtain ⟨y_18,h_19,hp⟩:=zab hp
      have c_20:=C86_eq h_19
      simp at c_20
      obtain ⟨y_21,h_22,hp⟩:=zab hp
      have c_23:=C85_eq h_22
      simp at c_23
      have n_24:=hn_15 (1,6) (by simp)
      try simp [h_4,h_5,h_9,q_16,h_17,c_20,c_23,n_24]
      obtain ⟨r_59,h_60,hp⟩:=zab hp
      obtain ⟨I_27,I_27_⟩:=exV fun (s_25:Int × (List Int) × (List Int)) (σ:St)=>(σ.env 1=uP (1,1)∧σ.env 2=uP (1,2)∧σ.env 3=uI (h_.next.length:Int)∧σ.env 4=uP (1,4)∧σ.env 5=uI s_10.1∧σ.env 6=uP (1,6)∧σ.env 7=uI s_25.1∧σ.mem (1,1)=some [cL .shr h_.vars,cL .shr h_.next]∧σ.mem (1,2)=some [.l .own 0 [],.l .own 0 []]∧σ.mem (1,4)=some [cL .own s_10.2.1,cL .own s_10.2.2]∧σ.mem (1,6)=some [cL .own s_25.2.1,cL .own s_25.2.2,cI y_21,cI 0])∧NoBox [(1,1),(1,2),(1,4),(1,6)] σ.mem
      obtain ⟨X_28,X_28_⟩:=exV fun (r_59:(List Int) × (List Int)) (out:Out)=>∃ σ:St,out=.exit 2 σ∧(σ.env 1=uP (1,1)∧σ.env 2=uP (1,2)∧σ.env 3=uI (h_.next.length:Int)∧σ.env 4=uP (1,4)∧σ.env 5=uI s_10.1∧σ.env 6=uP (1,6)∧σ.mem (1,1)=some [cL .shr h_.vars,cL .shr h_.next]∧σ.mem (1,2)=some [.l .own 0 [],.l .own 0 []]∧σ.mem (1,4)=some [cL .own s_10.2.1,cL .own s_10.2.2]∧σ.mem (1,6)=some [cL .own r_59.1,cL .own r_59.2,cI y_21,cI 0])∧NoBox [(1,1),(1,2),(1,4),(1,6)] σ.mem
      refine loopP ({ hd:=[1,2,3,4,5,6,7],bx:=[],ex:=[1,2,3,4,5,6],rt:=[2] }) I_27 X_28 h_60 (by exact rfl) ?_ ?_ ?_
      ·rw [I_27_]
       exact ⟨by simp [zac,zaa,h_4,h_5,h_9,q_16,h_17],NoBox.restrict (by intro k hk hb;simp at hk hb;simp [hk,hb,h_4,h_5,h_9,q_16,h_17,hn_15 k (by simp [hk,hb])])⟩
      ·intro s_25 σ_29 a_26 hI hp
       rw [I_27_] at hI
       obtain ⟨q_31,hn_30⟩:=hI
       try simp [h_4,h_5,h_9,h_17,q_31]
       rcases zad hp with ⟨h_32,hp⟩|⟨h_32,hp⟩
       ·try simp at h_32
        obtain ⟨e_33,h_34,hp⟩:=zab hp
        have b_35:=at_lo h_34
        have b_36:=at_hi h_34
        try simp at b_35 b_36
        have c_37:=seg_at' h_34 0 1 (by decide) (ds:=[.sc (.int .i64 e_33)]) rfl
        try simp at c_37
        obtain ⟨y_38,h_39,hp⟩:=zab hp
        have c_40:=C85_eq h_39
        simp at c_40
        obtain ⟨_,h_41,hp⟩:=zab hp
        have b_42:=zap h_41
        try simp at b_42
        obtain ⟨e_43,h_44,hp⟩:=zab hp
        cases Option.some.inj (h_34.symm.trans h_44)
        have b_45:=at_lo h_34
        have b_46:=at_hi h_34
        try simp at b_45 b_46
        have c_47:=seg_at' h_34 0 1 (by decide) (ds:=[.sc (.int .i64 e_33)]) rfl
        try simp at c_47
        obtain ⟨y_48,h_49,hp⟩:=zab hp
        have c_50:=C88_eq h_49
        simp at c_50
        obtain ⟨y_51,h_52,hp⟩:=zab hp
        have c_53:=C87_eq h_52
        simp at c_53
        obtain ⟨y_54,h_55,hp⟩:=zab hp
        have c_56:=C85_eq h_55
        simp at c_56
        obtain ⟨_,h_57,hp⟩:=zab hp
        have b_58:=zap h_57
        try simp at b_58
        cases hp
        try simp [h_4,h_5,h_9,h_17,q_31,h_32,b_35,b_36,c_37,c_40,b_42,b_45,b_46,c_47,c_50,c_53,c_56,b_58]
        refine zae ?_
        rw [I_27_]
        exact ⟨by simp [zac,zaa,h_4,h_5,h_9,h_17,q_31,h_32,b_35,b_36,c_37,c_40,b_42,b_45,b_46,c_47,c_50,c_53,c_56,b_58],NoBox.restrict (by intro k hk hb;simp at hk hb;simp [hk,hb,h_4,h_5,h_9,h_17,q_31,h_32,b_35,b_36,c_37,c_40,b_42,b_45,b_46,c_47,c_50,c_53,c_56,b_58,hn_30 k (by simp [hk,hb])])⟩
       ·try simp at h_32
        cases hp
        try simp [h_4,h_5,h_9,h_17,q_31,h_32]
        refine zag ?_
        rw [X_28_]
        exact ⟨_,rfl,by simp [zac,zaa,h_4,h_5,h_9,h_17,q_31,h_32],NoBox.restrict (by intro k hk hb;simp at hk hb;simp [hk,hb,h_4,h_5,h_9,h_17,q_31,h_32,hn_30 k (by simp [hk,hb])])⟩
      ·intro out hX
       rw [X_28_] at hX
       obtain ⟨σ_61,rfl,q_63,hn_62⟩:=hX
       obtain ⟨_,h_64,hp⟩:=zab hp
       have b_65:=zap h_64
       try simp at b_65
       try simp [h_4,h_5,h_9,h_17,q_63,b_65]
       obtain ⟨r_84,h_85,hp⟩:=zab hp
       obtain ⟨I_68,I_68_⟩:=exV fun (s_66:Int × (List Int)) (σ:St)=>(σ.env 1=uP (1,1)∧σ.env 2=uP (1,2)∧σ.env 3=uI (h_.next.length:Int)∧σ.env 4=uP (1,4)∧σ.env 5=uI s_10.1∧σ.env 8=uI s_66.1∧σ.mem (1,1)=some [cL .shr h_.vars,cL .shr h_.next]∧σ.mem (1,2)=some [.l .own 0 [],.l .own 0 []]∧σ.mem (1,4)=some [cL .own (s_10.2.1 ++ [(⟨r_59.1,r_59.2,y_21,0⟩:TNode)]),cL .own s_66.2]∧σ.mem (1,6)=some [.dead,.dead,.dead,.dead])∧NoBox [(1,1),(1,2),(1,4),(1,6)] σ.mem
       obtain ⟨X_69,X_69_⟩:=exV fun (r_84:(List Int)) (out:Out)=>∃ σ:St,out=.exit 4 σ∧(σ.env 1=uP (1,1)∧σ.env 2=uP (1,2)∧σ.env 3=uI (h_.next.length:Int)∧σ.env 4=uP (1,4)∧σ.env 5=uI s_10.1∧σ.mem (1,1)=some [cL .shr h_.vars,cL .shr h_.next]∧σ.mem (1,2)=some [.l .own 0 [],.l .own 0 []]∧σ.mem (1,4)=some [cL .own (s_10.2.1 ++ [(⟨r_59.1,r_59.2,y_21,0⟩:TNode)]),cL .own r_84]∧σ.mem (1,6)=some [.dead,.dead,.dead,.dead])∧NoBox [(1,1),(1,2),(1,4),(1,6)] σ.mem
       refine loopP ({ hd:=[1,2,3,4,5,8],bx:=[],ex:=[1,2,3,4,5],rt:=[2] }) I_68 X_69 h_85 (by exact rfl) ?_ ?_ ?_
       ·rw [I_68_]
        exact ⟨by simp [zac,zaa,h_4,h_5,h_9,h_17,q_63],NoBox.restrict (by intro k hk hb;simp at hk hb;simp [hk,hb,h_4,h_5,h_9,h_17,q_63,hn_62 k (by simp [hk,hb])])⟩
       ·intro s_66 σ_70 a_67 hI hp
        rw [I_68_] at hI
        obtain ⟨q_72,hn_71⟩:=hI
        try simp [h_4,h_5,h_9,h_17,q_72]
        rcases zad hp with ⟨h_73,hp⟩|⟨h_73,hp⟩
        ·try simp at h_73
         obtain ⟨e_74,h_75,hp⟩:=zab hp
         have b_76:=at_lo h_75
         have b_77:=at_hi h_75
         try simp at b_76 b_77
         have c_78:=seg_at' h_75 0 1 (by decide) (ds:=[.sc (.int .i64 e_74)]) rfl
         try simp at c_78
         obtain ⟨y_79,h_80,hp⟩:=zab hp
         have c_81:=C85_eq h_80
         simp at c_81
         obtain ⟨_,h_82,hp⟩:=zab hp
         have b_83:=zap h_82
         try simp at b_83
         cases hp
         try simp [h_4,h_5,h_9,h_17,q_72,h_73,b_76,b_77,c_78,c_81,b_83]
         refine zae ?_
         rw [I_68_]
         exact ⟨by simp [zac,zaa,h_4,h_5,h_9,h_17,q_72,h_73,b_76,b_77,c_78,c_81,b_83],NoBox.restrict (by intro k hk hb;simp at hk hb;simp [hk,hb,h_4,h_5,h_9,h_17,q_72,h_73,b_76,b_77,c_78,c_81,b_83,hn_71 k (by simp [hk,hb])])⟩
        ·try simp at h_73
         cases hp
         try simp [h_4,h_5,h_9,h_17,q_72,h_73]
         refine zag ?_
         rw [X_69_]
         exact ⟨_,rfl,by simp [zac,zaa,h_4,h_5,h_9,h_17,q_72,h_73],NoBox.restrict (by intro k hk hb;simp at hk hb;simp [hk,hb,h_4,h_5,h_9,h_17,q_72,h_73,hn_71 k (by simp [hk,hb])])⟩
       ·intro out hX
        rw [X_69_] at hX
        obtain ⟨σ_86,rfl,q_88,hn_87⟩:=hX
        cases hp
        try simp [h_4,h_5,h_9,h_17,q_88]
        refine zae ?_
        rw [I_12_]
        exact ⟨by simp [zac,zaa,h_4,h_5,h_9,h_17,q_88],NoBox.restrict (by intro k hk hb;simp at hk hb;simp [hk,hb,h_4,h_5,h_9,h_17,q_88,hn_87 k (by simp [hk,hb])])⟩
     ·try simp at h_17
      cases hp
      try simp [h_4,h_5,h_9,q_16,h_17]
      refine zag ?_
      rw [X_13_]
      exact ⟨_,rfl,by simp [zac,zaa,h_4,h_5,h_9,q_16,h_17],NoBox.restrict (by intro k hk hb;simp at hk hb;simp [hk,hb,h_4,h_5,h_9,q_16,h_17,hn_15 k (by simp [hk,hb])])⟩
    ·intro out hX
     rw [X_13_] at hX
     obtain ⟨σ_91,rfl,q_93,hn_92⟩:=hX
     cases hp
     simp [Goal,FnEnd,retR,rsrc,RSrc.val,nodupR,nodup,tupPart,h_4,h_5,h_9,q_93]
   ·try simp at h_9
    cases hp
    simp [Goal,FnEnd,retR,rsrc,RSrc.val,nodupR,nodup,tupPart,h_4,h_5,h_9]
 ·try simp at h_4
  cases hp
  simp [Goal,FnEnd,retR,rsrc,RSrc.val,nodupR,nodup,tupPart,h_4]
theorem pc45:PC Tryz.prog 45 C45:=pc_of (g:=g45) (zai _ g45_s.2.1 ⟨pc66,pc75,pc85,pc86,pc87,pc88,trivial⟩) (ent Tryz.func45) fun x y h=>w45 h

def C57:List AV→Option AV:=specP (X:=TStructure × Unit) fun x=>zdl x.1
theorem C57_eq {s} {y} (h:zdl s=some y):C57 [av .shr s]=some (Res.res y):=zah (x:=(s,())) h
def g57:Cfg:={ P:=Tryz.prog,take:=[],keep:=[],gho:=[],ctx:=[] }
@[simp] theorem g57_s:type_of% (cfg_s (g:=g57) rfl):=cfg_s rfl
theorem w57 {s} {y} (hp:zdl s=some y):∃ m,callo g57 0 57 [av .shr s] mem0=some (Res.res y,m):=by
 refine st0 [.tmp 2] Tryz.func57 ?_
 unfold zdl at hp
 simp [Tryz.f57]
 rcases zad hp with ⟨h_1,hp⟩|⟨h_1,hp⟩
 ·try simp at h_1
  cases hp
  simp [Goal,FnEnd,h_1]
 ·try simp at h_1
  obtain ⟨e_2,h_3,hp⟩:=zab hp
  have b_5:=at_hi h_3
  try simp at b_5
  have c_6:=seg_at' h_3 0 1 (by decide) (ds:=[.sl e_2.vars.length (encL e_2.vars)]) rfl
  try simp at c_6
  cases hp
  simp [Goal,FnEnd,h_1,b_5,c_6]
theorem pc57:PC Tryz.prog 57 C57:=pc_of (g:=g57) (zai [] rfl trivial) (ent Tryz.func57) fun x y h=>w57 h

def C73:List AV→Option AV:=specP (X:=Int × Unit) fun x=>zbc x.1
theorem zpx {a_} {y} (h:zbc a_=some y):C73 [av .shr a_]=some (Res.res y):=zah (x:=(a_,())) h
def g73:Cfg:={ P:=Tryz.prog,take:=[],keep:=[],gho:=[],ctx:=[(66,C66)] }
@[simp] theorem g73_s:type_of% (cfg_s (g:=g73) rfl):=cfg_s rfl
theorem w73 {a_} {y} (hp:zbc a_=some y):∃ m,callo g73 0 73 [av .shr a_] mem0=some (Res.res y,m):=by
 refine st0 [.tmp 2] Tryz.func73 ?_
 unfold zbc at hp
 obtain ⟨y_1,h_2,hp⟩:=zab hp
 have c_3:=zfw h_2
 simp at c_3
 cases hp
 simp [Tryz.f73,Goal,FnEnd,c_3]
theorem pc73:PC Tryz.prog 73 C73:=pc_of (g:=g73) (zai _ g73_s.2.1 ⟨pc66,trivial⟩) (ent Tryz.func73) fun x y h=>w73 h

def C72:List AV→Option AV:=specP (X:=(List Int) × Unit) fun x=>zcv x.1
theorem C72_eq {list} {y} (h:zcv list=some y):C72 [av .shr list]=some (Res.res y):=zah (x:=(list,())) h
def g72:Cfg:={ P:=Tryz.prog,take:=[],keep:=[((72,2),{ hd:=[0,3],bx:=[],ex:=[],rt:=[2] })],gho:=[],ctx:=[(73,C73)] }
@[simp] theorem g72_s:type_of% (cfg_s (g:=g72) rfl):=cfg_s rfl
theorem w72 {list} {y} (hp:zcv list=some y):∃ m,callo g72 0 72 [av .shr list] mem0=some (Res.res y,m):=by
 refine st0 [.tmp 2] Tryz.func72 ?_
 unfold zcv at hp
 simp [Tryz.f72]
 obtain ⟨r_18,h_19,hp⟩:=zab hp
 obtain ⟨I_3,I_3_⟩:=exV fun (s_1:Int) (σ:St)=>(σ.env 0=uL .shr list∧σ.env 3=uI s_1)∧σ.mem=mem0
 obtain ⟨X_4,X_4_⟩:=exV fun (r_18:(Unit) ⊕ (Unit)) (out:Out)=>Sum.elim (fun r_18=>∃ σ:St,out=.ret σ∧σ.env 2=uB false∧σ.mem=mem0) (fun r_18=>∃ σ:St,out=.exit 0 σ∧σ.mem=mem0) r_18
 refine loopP ({ hd:=[0,3],bx:=[],ex:=[],rt:=[2] }) I_3 X_4 h_19 (by exact rfl) ?_ ?_ ?_
 ·rw [I_3_]
  exact ⟨by simp [zac,zaa],by simp [zaa]⟩
 ·intro s_1 σ_5 a_2 hI hp
  rw [I_3_] at hI
  obtain ⟨q_7,q_6⟩:=hI
  try simp [q_7,q_6]
  rcases zad hp with ⟨h_8,hp⟩|⟨h_8,hp⟩
  ·try simp at h_8
   obtain ⟨e_9,h_10,hp⟩:=zab hp
   have b_11:=at_lo h_10
   have b_12:=at_hi h_10
   try simp at b_11 b_12
   have c_13:=seg_at' h_10 0 1 (by decide) (ds:=[.sc (.int .i64 e_9)]) rfl
   try simp at c_13
   obtain ⟨y_14,h_15,hp⟩:=zab hp
   have c_16:=zpx h_15
   simp at c_16
   try simp [q_7,q_6,h_8,b_11,b_12,c_13,c_16]
   rcases zad hp with ⟨h_17,hp⟩|⟨h_17,hp⟩
   ·try simp at h_17
    cases hp
    try simp [q_7,q_6,h_8,h_17]
    refine zae ?_
    rw [I_3_]
    exact ⟨by simp [zac,zaa,q_7,q_6,h_8,h_17],by simp [zaa,q_7,q_6,h_8,h_17]⟩
   ·try simp at h_17
    cases hp
    try simp [q_7,q_6,h_8,h_17]
    refine zal ?_
    rw [X_4_]
    exact ⟨_,rfl,by simp [zac,zaa,q_7,q_6,h_8,h_17],by simp [zaa,q_7,q_6,h_8,h_17]⟩
  ·try simp at h_8
   cases hp
   try simp [q_7,q_6,h_8]
   refine zag ?_
   rw [X_4_]
   exact ⟨_,rfl,by simp [zaa,q_7,q_6,h_8]⟩
 ·intro out hX
  rw [X_4_] at hX
  rcases r_18 with r_18 | r_18
  ·simp only [Sum.elim_inl,Sum.elim_inr] at hX hp
   obtain ⟨σ_20,rfl,q_22,q_21⟩:=hX
   cases hp
   simp [Goal,FnEnd,q_22,q_21]
  ·simp only [Sum.elim_inl,Sum.elim_inr] at hX hp
   obtain ⟨σ_23,rfl,q_24⟩:=hX
   cases hp
   simp [Goal,FnEnd,q_24]
theorem pc72:PC Tryz.prog 72 C72:=pc_of (g:=g72) (zai _ g72_s.2.1 ⟨pc73,trivial⟩) (ent Tryz.func72) fun x y h=>w72 h

def C32:List AV→Option AV:=specP (X:=Int × TStructure × Unit) fun x=>zcp x.1 x.2.1
theorem C32_eq {vars s} {y} (h:zcp vars s=some y):C32 [av .shr vars,av .shr s]=some (Res.res y):=zah (x:=(vars,s,())) h
def g32:Cfg:={ P:=Tryz.prog,take:=[],keep:=[((32,3),{ hd:=[0,3,5,6],bx:=[7],ex:=[0,3,5],rt:=[4] })],gho:=[],ctx:=[(66,C66),(72,C72),(73,C73)] }
@[simp] theorem g32_s:type_of% (cfg_s (g:=g32) rfl):=cfg_s rfl
theorem w32 {vars s} {y} (hp:zcp vars s=some y):∃ m,callo g32 0 32 [av .shr vars,av .shr s] mem0=some (Res.res y,m):=by
 refine st0 [.tmp 4] Tryz.func32 ?_
 unfold zcp at hp
 simp [Tryz.f32]
 obtain ⟨r_33,h_34,hp⟩:=zab hp
 obtain ⟨I_3,I_3_⟩:=exV fun (s_1:Int) (σ:St)=>(σ.env 0=uI vars∧σ.env 3=uP (1,3)∧σ.env 5=uI (s.nodes.length:Int)∧σ.env 6=uI s_1∧σ.mem (1,3)=some [cL .shr s.nodes,cL .shr s.next])∧NoBox [(1,3)] σ.mem
 obtain ⟨X_4,X_4_⟩:=exV fun (r_33:(Unit) ⊕ (Unit)) (out:Out)=>Sum.elim (fun r_33=>∃ σ:St,out=.ret σ∧(σ.env 4=uB false∧σ.mem (1,3)=some [cL .shr s.nodes,cL .shr s.next])∧NoBox [(1,3)] σ.mem) (fun r_33=>∃ σ:St,out=.exit 0 σ∧(σ.env 0=uI vars∧σ.env 3=uP (1,3)∧σ.env 5=uI (s.nodes.length:Int)∧σ.mem (1,3)=some [cL .shr s.nodes,cL .shr s.next])∧NoBox [(1,3)] σ.mem) r_33
 refine loopP ({ hd:=[0,3,5,6],bx:=[7],ex:=[0,3,5],rt:=[4] }) I_3 X_4 h_34 (by exact rfl) ?_ ?_ ?_
 ·rw [I_3_]
  exact ⟨by simp [zac,zaa],NoBox.restrict (by intro k hk hb;simp at hk hb;simp [hk,hb])⟩
 ·intro s_1 σ_5 a_2 hI hp
  rw [I_3_] at hI
  obtain ⟨q_7,hn_6⟩:=hI
  try simp [q_7]
  rcases zad hp with ⟨h_8,hp⟩|⟨h_8,hp⟩
  ·try simp at h_8
   obtain ⟨e_9,h_10,hp⟩:=zab hp
   have b_11:=at_lo h_10
   have b_12:=at_hi h_10
   try simp at b_11 b_12
   have c_13:=seg_at' h_10 0 4 (by decide) (ds:=[.sl e_9.vars.length (encL e_9.vars),.sl e_9.reach.length (encL e_9.reach),.sc (.int .i64 e_9.shared),.sc (.int .i64 e_9.many)]) rfl
   try simp at c_13
   have n_14:=hn_6 (1,7) (by simp)
   try simp [q_7,h_8,b_11,b_12,c_13,n_14]
   rcases zad hp with ⟨h_15,hp⟩|⟨h_15,hp⟩
   ·try simp at h_15
    cases hp
    try simp [q_7,h_8,h_15]
    refine zal ?_
    rw [X_4_]
    exact ⟨_,rfl,by simp [zac,zaa,q_7,h_8,h_15],NoBox.restrict (by intro k hk hb;simp at hk hb;simp [hk,hb,q_7,h_8,h_15,hn_6 k (by simp [hk,hb])])⟩
   ·try simp at h_15
    try simp [q_7,h_8,h_15]
    rcases zad hp with ⟨h_16,hp⟩|⟨h_16,hp⟩
    ·try simp at h_16
     cases hp
     try simp [q_7,h_8,h_15,h_16]
     refine zal ?_
     rw [X_4_]
     exact ⟨_,rfl,by simp [zac,zaa,q_7,h_8,h_15,h_16],NoBox.restrict (by intro k hk hb;simp at hk hb;simp [hk,hb,q_7,h_8,h_15,h_16,hn_6 k (by simp [hk,hb])])⟩
    ·try simp at h_16
     obtain ⟨y_17,h_18,hp⟩:=zab hp
     have c_19:=C72_eq h_18
     simp at c_19
     try simp [q_7,h_8,h_15,h_16,c_19]
     rcases zad hp with ⟨h_20,hp⟩|⟨h_20,hp⟩
     ·try simp at h_20
      obtain ⟨y_21,h_22,hp⟩:=zab hp
      have c_23:=C72_eq h_22
      simp at c_23
      try simp [q_7,h_8,h_15,h_16,h_20,c_23]
      rcases zad hp with ⟨h_24,hp⟩|⟨h_24,hp⟩
      ·try simp at h_24
       obtain ⟨y_25,h_26,hp⟩:=zab hp
       have c_27:=zpx h_26
       simp at c_27
       try simp [q_7,h_8,h_15,h_16,h_20,h_24,c_27]
       rcases zad hp with ⟨h_28,hp⟩|⟨h_28,hp⟩
       ·try simp at h_28
        obtain ⟨y_29,h_30,hp⟩:=zab hp
        have c_31:=zfw h_30
        simp at c_31
        try simp [q_7,h_8,h_15,h_16,h_20,h_24,h_28,c_31]
        rcases zad hp with ⟨h_32,hp⟩|⟨h_32,hp⟩
        ·try simp at h_32
         cases hp
         try simp [q_7,h_8,h_15,h_16,h_20,h_24,h_28,h_32]
         refine zae ?_
         rw [I_3_]
         exact ⟨by simp [zac,zaa,q_7,h_8,h_15,h_16,h_20,h_24,h_28,h_32],NoBox.restrict (by intro k hk hb;simp at hk hb;simp [hk,hb,q_7,h_8,h_15,h_16,h_20,h_24,h_28,h_32,hn_6 k (by simp [hk,hb])])⟩
        ·try simp at h_32
         cases hp
         try simp [q_7,h_8,h_15,h_16,h_20,h_24,h_28,h_32]
         refine zal ?_
         rw [X_4_]
         exact ⟨_,rfl,by simp [zac,zaa,q_7,h_8,h_15,h_16,h_20,h_24,h_28,h_32],NoBox.restrict (by intro k hk hb;simp at hk hb;simp [hk,hb,q_7,h_8,h_15,h_16,h_20,h_24,h_28,h_32,hn_6 k (by simp [hk,hb])])⟩
       ·try simp at h_28
        cases hp
        try simp [q_7,h_8,h_15,h_16,h_20,h_24,h_28]
        refine zal ?_
        rw [X_4_]
        exact ⟨_,rfl,by simp [zac,zaa,q_7,h_8,h_15,h_16,h_20,h_24,h_28],NoBox.restrict (by intro k hk hb;simp at hk hb;simp [hk,hb,q_7,h_8,h_15,h_16,h_20,h_24,h_28,hn_6 k (by simp [hk,hb])])⟩
      ·try simp at h_24
       cases hp
       try simp [q_7,h_8,h_15,h_16,h_20,h_24]
       refine zal ?_
       rw [X_4_]
       exact ⟨_,rfl,by simp [zac,zaa,q_7,h_8,h_15,h_16,h_20,h_24],NoBox.restrict (by intro k hk hb;simp at hk hb;simp [hk,hb,q_7,h_8,h_15,h_16,h_20,h_24,hn_6 k (by simp [hk,hb])])⟩
     ·try simp at h_20
      cases hp
      try simp [q_7,h_8,h_15,h_16,h_20]
      refine zal ?_
      rw [X_4_]
      exact ⟨_,rfl,by simp [zac,zaa,q_7,h_8,h_15,h_16,h_20],NoBox.restrict (by intro k hk hb;simp at hk hb;simp [hk,hb,q_7,h_8,h_15,h_16,h_20,hn_6 k (by simp [hk,hb])])⟩
  ·try simp at h_8
   cases hp
   try simp [q_7,h_8]
   refine zag ?_
   rw [X_4_]
   exact ⟨_,rfl,by simp [zac,zaa,q_7,h_8],NoBox.restrict (by intro k hk hb;simp at hk hb;simp [hk,hb,q_7,h_8,hn_6 k (by simp [hk,hb])])⟩
 ·intro out hX
  rw [X_4_] at hX
  rcases r_33 with r_33 | r_33
  ·simp only [Sum.elim_inl,Sum.elim_inr] at hX hp
   obtain ⟨σ_35,rfl,q_37,hn_36⟩:=hX
   cases hp
   simp [Goal,FnEnd,q_37]
  ·simp only [Sum.elim_inl,Sum.elim_inr] at hX hp
   obtain ⟨σ_38,rfl,q_40,hn_39⟩:=hX
   obtain ⟨y_41,h_42,hp⟩:=zab hp
   have c_43:=zfw h_42
   simp at c_43
   try simp [q_40,c_43]
   rcases zad hp with ⟨h_44,hp⟩|⟨h_44,hp⟩
   ·try simp at h_44
    try simp [q_40,h_44]
    rcases zad hp with ⟨h_45,hp⟩|⟨h_45,hp⟩
    ·try simp at h_45
     try simp [q_40,h_44,h_45]
     rcases zad hp with ⟨h_46,hp⟩|⟨h_46,hp⟩
     ·try simp at h_46
      obtain ⟨y_47,h_48,hp⟩:=zab hp
      have c_49:=C72_eq h_48
      simp at c_49
      cases hp
      simp [Goal,FnEnd,q_40,h_44,h_45,h_46,c_49]
     ·try simp at h_46
      cases hp
      simp [Goal,FnEnd,q_40,h_44,h_45,h_46]
    ·try simp at h_45
     cases hp
     simp [Goal,FnEnd,q_40,h_44,h_45]
   ·try simp at h_44
    cases hp
    simp [Goal,FnEnd,q_40,h_44]
theorem pc32:PC Tryz.prog 32 C32:=pc_of (g:=g32) (zai _ g32_s.2.1 ⟨pc66,pc72,pc73,trivial⟩) (ent Tryz.func32) fun x y h=>w32 h

def C102:List AV→Option AV:=specP (X:=TNode × Unit) fun x=>zcm x.1
theorem C102_eq {x_} {y} (h:zcm x_=some y):C102 [av .shr x_]=some (Res.res y):=zah (x:=(x_,())) h
def g102:Cfg:={ P:=Tryz.prog,take:=[],keep:=[],gho:=[],ctx:=[] }
@[simp] theorem g102_s:type_of% (cfg_s (g:=g102) rfl):=cfg_s rfl
theorem w102 {x_} {y} (hp:zcm x_=some y):∃ m,callo g102 0 102 [av .shr x_] mem0=some (Res.res y,m):=by
 refine st0 [.cell 2 75] Tryz.func102 ?_
 unfold zcm at hp
 obtain ⟨_,h_1,hp⟩:=zab hp
 have b_2:=zap h_1
 try simp at b_2
 obtain ⟨_,h_3,hp⟩:=zab hp
 have b_4:=zap h_3
 try simp at b_4
 cases hp
 simp [Tryz.f102,Goal,FnEnd,retR,rsrc,RSrc.val,nodupR,nodup,tupPart,b_2,b_4]
theorem pc102:PC Tryz.prog 102 C102:=pc_of (g:=g102) (zai [] rfl trivial) (ent Tryz.func102) fun x y h=>w102 h

def C58:List AV→Option AV:=specP (X:=TStructure × Unit) fun x=>zcn x.1
theorem zpy {s} {y} (h:zcn s=some y):C58 [av .shr s]=some (Res.res y):=zah (x:=(s,())) h
def g58:Cfg:={ P:=Tryz.prog,take:=[(58,18),(58,28)],keep:=[((58,3),{ hd:=[1,2,3,4],bx:=[],ex:=[2,3],rt:=[2] })],gho:=[],ctx:=[(102,C102)] }
@[simp] theorem g58_s:type_of% (cfg_s (g:=g58) rfl):=cfg_s rfl
theorem w58 {s} {y} (hp:zcn s=some y):∃ m,callo g58 0 58 [av .shr s] mem0=some (Res.res y,m):=by
 refine st0 [.cell 2 32] Tryz.func58 ?_
 unfold zcn at hp
 obtain ⟨_,h_1,hp⟩:=zab hp
 have b_2:=zap h_1
 try simp at b_2
 simp [Tryz.f58,b_2]
 obtain ⟨r_21,h_22,hp⟩:=zab hp
 obtain ⟨I_5,I_5_⟩:=exV fun (s_3:Int × (List TNode)) (σ:St)=>(σ.env 1=uP (1,1)∧σ.env 2=uP (1,2)∧σ.env 3=uP (1,3)∧σ.env 4=uI s_3.1∧σ.mem (1,1)=some [cL .shr s.nodes,cL .shr s.next]∧σ.mem (1,2)=some [.l .own 0 [],.l .own 0 []]∧σ.mem (1,3)=some [cL .own s_3.2,cL .own s.next])∧NoBox [(1,1),(1,2),(1,3)] σ.mem
 obtain ⟨X_6,X_6_⟩:=exV fun (r_21:(List TNode)) (out:Out)=>∃ σ:St,out=.exit 0 σ∧(σ.env 2=uP (1,2)∧σ.env 3=uP (1,3)∧σ.mem (1,1)=some [cL .shr s.nodes,cL .shr s.next]∧σ.mem (1,2)=some [.l .own 0 [],.l .own 0 []]∧σ.mem (1,3)=some [cL .own r_21,cL .own s.next])∧NoBox [(1,1),(1,2),(1,3)] σ.mem
 refine loopP ({ hd:=[1,2,3,4],bx:=[],ex:=[2,3],rt:=[2] }) I_5 X_6 h_22 (by exact rfl) ?_ ?_ ?_
 ·rw [I_5_]
  exact ⟨by simp [zac,zaa],NoBox.restrict (by intro k hk hb;simp at hk hb;simp [hk,hb])⟩
 ·intro s_3 σ_7 a_4 hI hp
  rw [I_5_] at hI
  obtain ⟨q_9,hn_8⟩:=hI
  try simp [q_9]
  rcases zad hp with ⟨h_10,hp⟩|⟨h_10,hp⟩
  ·try simp at h_10
   obtain ⟨e_11,h_12,hp⟩:=zab hp
   have b_13:=at_lo h_12
   have b_14:=at_hi h_12
   try simp at b_13 b_14
   have c_15:=seg_at' h_12 0 4 (by decide) (ds:=[.sl e_11.vars.length (encL e_11.vars),.sl e_11.reach.length (encL e_11.reach),.sc (.int .i64 e_11.shared),.sc (.int .i64 e_11.many)]) rfl
   try simp at c_15
   obtain ⟨y_16,h_17,hp⟩:=zab hp
   have c_18:=C102_eq h_17
   simp at c_18
   obtain ⟨_,h_19,hp⟩:=zab hp
   have b_20:=zap h_19
   try simp at b_20
   cases hp
   try simp [q_9,h_10,b_13,b_14,c_15,c_18,b_20]
   refine zae ?_
   rw [I_5_]
   exact ⟨by simp [zac,zaa,q_9,h_10,b_13,b_14,c_15,c_18,b_20],NoBox.restrict (by intro k hk hb;simp at hk hb;simp [hk,hb,q_9,h_10,b_13,b_14,c_15,c_18,b_20,hn_8 k (by simp [hk,hb])])⟩
  ·try simp at h_10
   cases hp
   try simp [q_9,h_10]
   refine zag ?_
   rw [X_6_]
   exact ⟨_,rfl,by simp [zac,zaa,q_9,h_10],NoBox.restrict (by intro k hk hb;simp at hk hb;simp [hk,hb,q_9,h_10,hn_8 k (by simp [hk,hb])])⟩
 ·intro out hX
  rw [X_6_] at hX
  obtain ⟨σ_23,rfl,q_25,hn_24⟩:=hX
  cases hp
  simp [Goal,FnEnd,retR,rsrc,RSrc.val,nodupR,nodup,tupPart,q_25]
theorem pc58:PC Tryz.prog 58 C58:=pc_of (g:=g58) (zai _ g58_s.2.1 ⟨pc102,trivial⟩) (ent Tryz.func58) fun x y h=>w58 h
end Go.Proofs

