import Derived.Test.YtfcfpdcjepobpaaEvA7
import Derived.Test.YtfcfpdcjepobpaaEvA11
import Derived.Test.YtfcfpdcjepobpaaEvA16
import Derived.Test.YtfcfpdcjepobpaaRows
import Derived.WalkKit
import Derived.ProofKit
import Derived.OpenShut
import Derived.Carry
/- FnFocused: the statement holds of the given program, at every input; no condition. -/
set_option linter.unusedSimpArgs false
set_option linter.unusedVariables false
set_option linter.unnecessarySimpa false
noncomputable section

namespace Go.Proofs.Ytfcfpdcjepobpaa.fnFocused
open Go.ChangeShapes Go.WideShapes Go.ChangeAt Go.RowKit Go.Ev
open Go.Ev.Enc (enc)
open Go.Ev.Wf (wf)
theorem dec_5 {ds:List D} (h:Typed Try.prog 5 ds):∃ x:U8,enc x=ds∧wf x:=typed_u8 Try.underlying5 h
theorem dec_22 {ds:List D} (h:Typed Try.prog 22 ds):∃ x:(List U8),enc x=ds∧wf x:=typed_slice Try.underlying22 (fun _=>dec_5) h
theorem own:ownKnob Try.prog.godebug=none:=by kernel_rfl
theorem laid:laidOutB Try.prog=true:=by kernel_rfl
theorem r22:Try.prog.readableRec 22=true:=by kernel_rfl
theorem s22:(22:Nat) < Try.prog.types.size:=of_decide_eq_true (by kernel_rfl)
def L:List Nat:=[5,22]
theorem hL:closedB Try.prog L=true:=by kernel_rfl
theorem hF {d0:List D} (h0:Typed Try.prog 22 d0):C3 [argAV Try.prog 22 d0]=some (.one (.s (.bool true))):=by
 obtain ⟨x0,rfl,w0⟩:=dec_22 h0
 have h:=C3_eq (law_Focused w0)
 have e0:argAV Try.prog 22 (enc x0)=av .shr x0:=by unfold argAV;rw [Try.underlying22];rfl
 rw [e0,h]
 rfl
set_option maxRecDepth 100000 in
theorem lifted (os:Os) (started:os.Started) (H:Type) (enc:TypeId × Value→H) :
 ReturnsInHanded {} Try.checked os 3 .any (Rows.fnFocusedSpec.pre6 enc Try.prog Try.f3 Rows.fnFocusedRow.domain false) (Rows.fnFocusedSpec.post enc Try.prog Try.f3 false true false false):=by
 refine returnsInHanded_of_change (C:=Try.checked) own started (by kernel_rfl) Try.func3
  (ChangeSpec.witness6 (enc:=enc) (C:=Try.checked) false ⟨#[],#[.slice none 0 0],[]⟩ 8 (by kernel_rfl) (by kernel_rfl) (by kernel_rfl) (by kernel_rfl)) ?_
 intro W base args ds gs before hval0 hW hcnd _
 have hval:∀ (j:Nat) t v,Try.f3.params[j]?=some t→args[j]?=some v→Value.okWide Try.prog W .any base t v:=hval0
 have hW':=hW
 obtain ⟨p,q,hA0,hV,rfl,hfz,hnd⟩:=hW
 have hA:DataW.TrodAll enc Try.prog W 0 (fun _=>true) true Try.f3.params.toList args.toList ds p:=hA0
 rw [Try.params3] at hA hval
 obtain ⟨v0,vs0,d0,ds0,p0,q0,hargs,rfl,rfl,h0,r0⟩:=trodAll_cons hA
 obtain ⟨rfl,rfl,rfl⟩:=trodAll_nil r0
 obtain rfl:args = #[v0]:=by cases args;simp_all
 obtain ⟨rfl,rfl⟩:=trodVars_none hV
 obtain ⟨x0,t0,a0⟩:=arg_ok hL (t:=22) (by decide) (hval 0 22 v0 rfl rfl) h0
 have hlt:∀ x∈(p0 ++ []) ++ [],x.block < W.heap.size:=fun x hx=>hW'.lt x hx
 refine (pc3.law (hF t0) rfl (fun i x v hi hv o=>?_)).mono fun e W' he=>?_
 ·match i with
  | 0=>cases hi;cases hv;exact a0 o
  | i+1=>simp at hi
 ·obtain ⟨rfl,hk,hsz,hold⟩:=he
  have hb:Below W.heap.size W W':=⟨hk.1.1,hk.1.2.1,hk.1.2.2,hsz,hold⟩
  refine ⟨_,rfl,post_read (pa:=p0 ++ []) hW' (fun _ _ _=>(trodAll_cons_mk (shut_bool Try.underlying4 _) trodAll_mk0)) (fun sp hsp=>?_) (fun _=>rfl)
   (hb.frame _) (fun a ha=>(hk.2 a ha).2) (ok_one (by kernel_rfl) rfl (okWide_bool_mk Try.underlying4 _))⟩
  exact trodAll_cons_mk (WideElems.Trod_stays laid r22 s22 h0 (fun x hx=>hb.same (hlt x (by simp [hx]))) (fun x hx=>hsp x (by simp [hx]))) trodAll_mk0
theorem over:Rows.fnFocusedRow.holds Try.pinned (OpenSpec.ofChange Rows.fnFocusedSpec) :=
 OpenClaim.holds_of_wide 3 Try.f3 rfl rfl rfl rfl rfl rfl rfl ⟨rfl,rfl,rfl,rfl,rfl⟩ rfl rfl rfl rfl rfl (by kernel_rfl) Try.func3 (by kernel_rfl)
  (of_decide_eq_true (by kernel_rfl)) (by unfold Func.isWrapper;first | (rw [if_pos (by decide +kernel)];kernel_rfl) | (rw [if_neg (by decide +kernel)];exact ⟨rfl,rfl⟩))
  (fun os started H enc _=>lifted os started H enc)

theorem said:Rows.FnFocusedSaid:=over
end Go.Proofs.Ytfcfpdcjepobpaa.fnFocused
