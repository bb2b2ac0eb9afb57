import Derived.Test.YtfeogbfmndbcfaaEvA7
import Derived.Test.YtfeogbfmndbcfaaEvA11
import Derived.Test.YtfeogbfmndbcfaaEvA14
import Derived.Test.YtfeogbfmndbcfaaRows
import Derived.WalkKit
import Derived.ProofKit
import Derived.OpenShut
import Derived.Carry
/- FnExactAbstractionOf: the statement holds of the given program, at every input; no condition. -/
set_option linter.unusedSimpArgs false
set_option linter.unusedVariables false
set_option linter.unnecessarySimpa false
noncomputable section

namespace Go.Proofs.Ytfeogbfmndbcfaa.fnExactAbstractionOf
open Go.ChangeShapes Go.WideShapes Go.ChangeAt Go.RowKit Go.Ev
open Go.Ev.Enc (enc)
open Go.Ev.Wf (wf)
theorem dec_3 {ds:List D} (h:Typed Try.prog 3 ds):∃ x:Int,enc x=ds∧wf x:=typed_int Try.underlying3 h
theorem dec_23 {ds:List D} (h:Typed Try.prog 23 ds):∃ x:(List Int),enc x=ds∧wf x:=typed_slice Try.underlying23 (fun _=>dec_3) h
theorem dec_37 {ds:List D} (h:Typed Try.prog 37 ds):∃ x:THeap,enc x=ds∧wf x:=by
 obtain ⟨xs,hl,rfl,hx⟩:=typed_struct Try.underlying37 h
 match xs,hl with
 | [x0,x1],_ =>
  obtain ⟨y0,rfl,w0⟩:=dec_23 (hx 0 _ x0 rfl rfl)
  obtain ⟨y1,rfl,w1⟩:=dec_23 (hx 1 _ x1 rfl rfl)
  exact ⟨⟨y0,y1⟩,rfl,⟨w0,w1⟩⟩
theorem own:ownKnob Try.prog.godebug=none:=by kernel_rfl
theorem laid:laidOutB Try.prog=true:=by kernel_rfl
theorem r37:Try.prog.readableRec 37=true:=by kernel_rfl
theorem s37:(37:Nat) < Try.prog.types.size:=of_decide_eq_true (by kernel_rfl)
def L:List Nat:=[3,23,37]
theorem hL:closedB Try.prog L=true:=by kernel_rfl
theorem hF {d0:List D} (h0:Typed Try.prog 37 d0):C5 [argAV Try.prog 37 d0]=some (.one (.s (.bool true))):=by
 obtain ⟨x0,rfl,w0⟩:=dec_37 h0
 have h:=C5_eq (law_AbstractionOf w0)
 have e0:argAV Try.prog 37 (enc x0)=av .shr x0:=by unfold argAV;rw [Try.underlying37];rfl
 rw [e0,h]
 rfl
set_option maxRecDepth 100000 in
theorem lifted (os:Os) (started:os.Started) (H:Type) (enc:TypeId × Value→H) :
 ReturnsInHanded {} Try.checked os 5 .any (Rows.fnExactAbstractionOfSpec.pre6 enc Try.prog Try.f5 Rows.fnExactAbstractionOfRow.domain false) (Rows.fnExactAbstractionOfSpec.post enc Try.prog Try.f5 false true false false):=by
 refine returnsInHanded_of_change (C:=Try.checked) own started (by kernel_rfl) Try.func5
  (ChangeSpec.witness6 (enc:=enc) (C:=Try.checked) false ⟨#[],#[.agg #[.slice none 0 0,.slice none 0 0]],[]⟩ 8 (by kernel_rfl) (by kernel_rfl) (by kernel_rfl) (by kernel_rfl)) ?_
 intro W base args ds gs before hval0 hW hcnd _
 have hval:∀ (j:Nat) t v,Try.f5.params[j]?=some t→args[j]?=some v→Value.okWide Try.prog W .any base t v:=hval0
 have hW':=hW
 obtain ⟨p,q,hA0,hV,rfl,hfz,hnd⟩:=hW
 have hA:DataW.TrodAll enc Try.prog W 0 (fun _=>true) true Try.f5.params.toList args.toList ds p:=hA0
 rw [Try.params5] at hA hval
 obtain ⟨v0,vs0,d0,ds0,p0,q0,hargs,rfl,rfl,h0,r0⟩:=trodAll_cons hA
 obtain ⟨rfl,rfl,rfl⟩:=trodAll_nil r0
 obtain rfl:args = #[v0]:=by cases args;simp_all
 obtain ⟨rfl,rfl⟩:=trodVars_none hV
 obtain ⟨x0,t0,a0⟩:=arg_ok hL (t:=37) (by decide) (hval 0 37 v0 rfl rfl) h0
 have hlt:∀ x∈(p0 ++ []) ++ [],x.block < W.heap.size:=fun x hx=>hW'.lt x hx
 refine (pc5.law (hF t0) rfl (fun i x v hi hv o=>?_)).mono fun e W' he=>?_
 ·match i with
  | 0=>cases hi;cases hv;exact a0 o
  | i+1=>simp at hi
 ·obtain ⟨rfl,hk,hsz,hold⟩:=he
  have hb:Below W.heap.size W W':=⟨hk.1.1,hk.1.2.1,hk.1.2.2,hsz,hold⟩
  refine ⟨_,rfl,post_read (pa:=p0 ++ []) hW' (fun _ _ _=>(trodAll_cons_mk (shut_bool Try.underlying4 _) trodAll_mk0)) (fun sp hsp=>?_) (fun _=>rfl)
   (hb.frame _) (fun a ha=>(hk.2 a ha).2) (ok_one (by kernel_rfl) rfl (okWide_bool_mk Try.underlying4 _))⟩
  exact trodAll_cons_mk (WideElems.Trod_stays laid r37 s37 h0 (fun x hx=>hb.same (hlt x (by simp [hx]))) (fun x hx=>hsp x (by simp [hx]))) trodAll_mk0
theorem over:Rows.fnExactAbstractionOfRow.holds Try.pinned (OpenSpec.ofChange Rows.fnExactAbstractionOfSpec) :=
 OpenClaim.holds_of_wide 5 Try.f5 rfl rfl rfl rfl rfl rfl rfl ⟨rfl,rfl,rfl,rfl,rfl⟩ rfl rfl rfl rfl rfl (by kernel_rfl) Try.func5 (by kernel_rfl)
  (of_decide_eq_true (by kernel_rfl)) (by unfold Func.isWrapper;first | (rw [if_pos (by decide +kernel)];kernel_rfl) | (rw [if_neg (by decide +kernel)];exact ⟨rfl,rfl⟩))
  (fun os started H enc _=>lifted os started H enc)
theorem said:Rows.FnExactAbstractionOfSaid:=over
end Go.Proofs.Ytfeogbfmndbcfaa.fnExactAbstractionOf
