import Derived.Test.YtmmliafoddlgfaaGreatEvA6
import Derived.Test.YtmmliafoddlgfaaGreatEvA11
import Derived.Test.YtmmliafoddlgfaaGreatEvA19
import Derived.Test.YtmmliafoddlgfaaGreatRows
import Derived.WalkKit
import Derived.ProofKit
import Derived.OpenShut
import Derived.Carry
/- FnExactConfirmAlarm: the statement holds of the given program, at every input; no condition. -/
set_option linter.unusedSimpArgs false
set_option linter.unusedVariables false
set_option linter.unnecessarySimpa false
noncomputable section

namespace Go.Proofs.YtmmliafoddlgfaaGreat.fnExactConfirmAlarm
open Go.ChangeShapes Go.WideShapes Go.ChangeAt Go.RowKit Go.Ev
open Go.Ev.Enc (enc)
open Go.Ev.Wf (wf)
theorem D9 {ds:List D} (h:Typed Tryz.prog 9 ds):∃ x:ByteArray,enc x=ds∧wf x:=typed_string Tryz.underlying9 h
theorem D22 {ds:List D} (h:Typed Tryz.prog 22 ds):∃ x:(List ByteArray),enc x=ds∧wf x:=typed_slice Tryz.underlying22 (fun _=>D9) h
theorem D3 {ds:List D} (h:Typed Tryz.prog 3 ds):∃ x:Int,enc x=ds∧wf x:=typed_int Tryz.underlying3 h
theorem D108 {ds:List D} (h:Typed Tryz.prog 108 ds):∃ x:TStmt,enc x=ds∧wf x:=by
 obtain ⟨xs,hl,rfl,hx⟩:=typed_struct Tryz.underlying108 h
 match xs,hl with
 | [x0,x1,x2],_ =>
  obtain ⟨y0,rfl,w0⟩:=D3 (hx 0 _ x0 rfl rfl)
  obtain ⟨y1,rfl,w1⟩:=D9 (hx 1 _ x1 rfl rfl)
  obtain ⟨y2,rfl,w2⟩:=D9 (hx 2 _ x2 rfl rfl)
  exact ⟨⟨y0,y1,y2⟩,rfl,⟨w0,w1,w2⟩⟩
theorem D110 {ds:List D} (h:Typed Tryz.prog 110 ds):∃ x:TEdge,enc x=ds∧wf x:=by
 obtain ⟨xs,hl,rfl,hx⟩:=typed_struct Tryz.underlying110 h
 match xs,hl with
 | [x0,x1,x2],_ =>
  obtain ⟨y0,rfl,w0⟩:=D3 (hx 0 _ x0 rfl rfl)
  obtain ⟨y1,rfl,w1⟩:=D3 (hx 1 _ x1 rfl rfl)
  obtain ⟨y2,rfl,w2⟩:=D108 (hx 2 _ x2 rfl rfl)
  exact ⟨⟨y0,y1,y2⟩,rfl,⟨w0,w1,w2⟩⟩
theorem D23 {ds:List D} (h:Typed Tryz.prog 23 ds):∃ x:(List TEdge),enc x=ds∧wf x:=typed_slice Tryz.underlying23 (fun _=>D110) h
theorem D25 {ds:List D} (h:Typed Tryz.prog 25 ds):∃ x:TProgram,enc x=ds∧wf x:=by
 obtain ⟨xs,hl,rfl,hx⟩:=typed_struct Tryz.underlying25 h
 match xs,hl with
 | [x0,x1,x2],_ =>
  obtain ⟨y0,rfl,w0⟩:=D22 (hx 0 _ x0 rfl rfl)
  obtain ⟨y1,rfl,w1⟩:=D3 (hx 1 _ x1 rfl rfl)
  obtain ⟨y2,rfl,w2⟩:=D23 (hx 2 _ x2 rfl rfl)
  exact ⟨⟨y0,y1,y2⟩,rfl,⟨w0,w1,w2⟩⟩
theorem D26 {ds:List D} (h:Typed Tryz.prog 26 ds):∃ x:(List Int),enc x=ds∧wf x:=typed_slice Tryz.underlying26 (fun _=>D3) h
theorem D28 {ds:List D} (h:Typed Tryz.prog 28 ds):∃ x:THeap,enc x=ds∧wf x:=by
 obtain ⟨xs,hl,rfl,hx⟩:=typed_struct Tryz.underlying28 h
 match xs,hl with
 | [x0,x1],_ =>
  obtain ⟨y0,rfl,w0⟩:=D26 (hx 0 _ x0 rfl rfl)
  obtain ⟨y1,rfl,w1⟩:=D26 (hx 1 _ x1 rfl rfl)
  exact ⟨⟨y0,y1⟩,rfl,⟨w0,w1⟩⟩
theorem D51 {ds:List D} (h:Typed Tryz.prog 51 ds):∃ x:(List THeap),enc x=ds∧wf x:=typed_slice Tryz.underlying51 (fun _=>D28) h
theorem D71 {ds:List D} (h:Typed Tryz.prog 71 ds):∃ x:TAlarm,enc x=ds∧wf x:=by
 obtain ⟨xs,hl,rfl,hx⟩:=typed_struct Tryz.underlying71 h
 match xs,hl with
 | [x0,x1],_ =>
  obtain ⟨y0,rfl,w0⟩:=D3 (hx 0 _ x0 rfl rfl)
  obtain ⟨y1,rfl,w1⟩:=D3 (hx 1 _ x1 rfl rfl)
  exact ⟨⟨y0,y1⟩,rfl,⟨w0,w1⟩⟩
theorem own:ownKnob Tryz.prog.godebug=none:=by kernel_rfl
theorem laid:laidOutB Tryz.prog=true:=by kernel_rfl
theorem r25:Tryz.prog.readableRec 25=true:=by kernel_rfl
theorem s25:(25:Nat) < Tryz.prog.types.size:=of_decide_eq_true (by kernel_rfl)
theorem r51:Tryz.prog.readableRec 51=true:=by kernel_rfl
theorem s51:(51:Nat) < Tryz.prog.types.size:=of_decide_eq_true (by kernel_rfl)
theorem r71:Tryz.prog.readableRec 71=true:=by kernel_rfl
theorem s71:(71:Nat) < Tryz.prog.types.size:=of_decide_eq_true (by kernel_rfl)
def L:List Nat:=[3,9,22,23,25,26,28,51,71,108,110]
theorem hL:closedB Tryz.prog L=true:=by kernel_rfl
theorem hF {d0 d1 d2:List D} (h0:Typed Tryz.prog 25 d0) (h1:Typed Tryz.prog 51 d1) (h2:Typed Tryz.prog 71 d2):C7 [argAV Tryz.prog 25 d0,argAV Tryz.prog 51 d1,argAV Tryz.prog 71 d2]=some (.one (.s (.bool true))):=by
 obtain ⟨x0,rfl,w0⟩:=D25 h0
 obtain ⟨x1,rfl,w1⟩:=D51 h1
 obtain ⟨x2,rfl,w2⟩:=D71 h2
 have h:=C7_eq (law_ConfirmAlarm w0 w1 w2)
 have e0:argAV Tryz.prog 25 (enc x0)=av .shr x0:=by unfold argAV;rw [Tryz.underlying25];rfl
 have e1:argAV Tryz.prog 51 (enc x1)=av .shr x1:=by unfold argAV;rw [Tryz.underlying51];rfl
 have e2:argAV Tryz.prog 71 (enc x2)=av .shr x2:=by unfold argAV;rw [Tryz.underlying71];rfl
 rw [e0,e1,e2,h]
 rfl
set_option maxRecDepth 100000 in
theorem lifted (os:Os) (started:os.Started) (H:Type) (enc:TypeId × Value→H) :
 ReturnsInHanded {} Tryz.checked os 7 .any (Rows.fnExactConfirmAlarmSpec.pre6 enc Tryz.prog Tryz.f7 Rows.fnExactConfirmAlarmRow.domain false) (Rows.fnExactConfirmAlarmSpec.post enc Tryz.prog Tryz.f7 false true false false):=by
 refine returnsInHanded_of_change (C:=Tryz.checked) own started (by kernel_rfl) Tryz.func7
  (ChangeSpec.witness6 (enc:=enc) (C:=Tryz.checked) false ⟨#[],#[.agg #[.slice none 0 0,.int .i64 0,.slice none 0 0],.slice none 0 0,.agg #[.int .i64 0,.int .i64 0]],[]⟩ 8 (by kernel_rfl) (by kernel_rfl) (by kernel_rfl) (by kernel_rfl)) ?_
 intro W base args ds gs before hval0 hW hcnd _
 have hval:∀ (j:Nat) t v,Tryz.f7.params[j]?=some t→args[j]?=some v→Value.okWide Tryz.prog W .any base t v:=hval0
 have hW':=hW
 obtain ⟨p,q,hA0,hV,rfl,hfz,hnd⟩:=hW
 have hA:DataW.TrodAll enc Tryz.prog W 0 (fun _=>true) true Tryz.f7.params.toList args.toList ds p:=hA0
 rw [Tryz.params7] at hA hval
 obtain ⟨v0,vs0,d0,ds0,p0,q0,hargs,rfl,rfl,h0,r0⟩:=trodAll_cons hA
 obtain ⟨v1,vs1,d1,ds1,p1,q1,rfl,rfl,rfl,h1,r1⟩:=trodAll_cons r0
 obtain ⟨v2,vs2,d2,ds2,p2,q2,rfl,rfl,rfl,h2,r2⟩:=trodAll_cons r1
 obtain ⟨rfl,rfl,rfl⟩:=trodAll_nil r2
 obtain rfl:args = #[v0,v1,v2]:=by cases args;simp_all
 obtain ⟨rfl,rfl⟩:=trodVars_none hV
 obtain ⟨x0,t0,a0⟩:=arg_ok hL (t:=25) (by decide) (hval 0 25 v0 rfl rfl) h0
 obtain ⟨x1,t1,a1⟩:=arg_ok hL (t:=51) (by decide) (hval 1 51 v1 rfl rfl) h1
 obtain ⟨x2,t2,a2⟩:=arg_ok hL (t:=71) (by decide) (hval 2 71 v2 rfl rfl) h2
 have hlt:∀ x∈p0 ++ (p1 ++ (p2 ++ [])) ++ [],x.block < W.heap.size:=fun x hx=>hW'.lt x hx
 refine (pc7.law (hF t0 t1 t2) rfl (fun i x v hi hv o=>?_)).mono fun e W' he=>?_
 ·match i with
  | 0=>cases hi;cases hv;exact a0 o
  | 1=>cases hi;cases hv;exact a1 o
  | 2=>cases hi;cases hv;exact a2 o
  | i+3=>simp at hi
 ·obtain ⟨rfl,hk,hsz,hold⟩:=he
  have hb:Below W.heap.size W W':=⟨hk.1.1,hk.1.2.1,hk.1.2.2,hsz,hold⟩
  refine ⟨_,rfl,post_read (pa:=p0 ++ (p1 ++ (p2 ++ []))) hW' (fun _ _ _=>(trodAll_cons_mk (shut_bool Tryz.underlying4 _) trodAll_mk0)) (fun sp hsp=>?_) (fun _=>rfl)
   (hb.frame _) (fun a ha=>(hk.2 a ha).2) (ok_one (by kernel_rfl) rfl (okWide_bool_mk Tryz.underlying4 _))⟩
  exact trodAll_cons_mk (WideElems.Trod_stays laid r25 s25 h0 (fun x hx=>hb.same (hlt x (by simp [hx]))) (fun x hx=>hsp x (by simp [hx]))) (trodAll_cons_mk (WideElems.Trod_stays laid r51 s51 h1 (fun x hx=>hb.same (hlt x (by simp [hx]))) (fun x hx=>hsp x (by simp [hx]))) (trodAll_cons_mk (WideElems.Trod_stays laid r71 s71 h2 (fun x hx=>hb.same (hlt x (by simp [hx]))) (fun x hx=>hsp x (by simp [hx]))) trodAll_mk0))
theorem over:Rows.fnExactConfirmAlarmRow.holds Tryz.pinned (OpenSpec.ofChange Rows.fnExactConfirmAlarmSpec) :=
 OpenClaim.holds_of_wide 7 Tryz.f7 rfl rfl rfl rfl rfl rfl rfl ⟨rfl,rfl,rfl,rfl,rfl⟩ rfl rfl rfl rfl rfl (by kernel_rfl) Tryz.func7 (by kernel_rfl)
  (of_decide_eq_true (by kernel_rfl)) (by unfold Func.isWrapper;first | (rw [if_pos (by decide +kernel)];kernel_rfl) | (rw [if_neg (by decide +kernel)];exact ⟨rfl,rfl⟩))
  (fun os started H enc _=>lifted os started H enc)
theorem said:Rows.FnExactConfirmAlarmSaid:=over
end Go.Proofs.YtmmliafoddlgfaaGreat.fnExactConfirmAlarm
