import Derived.Test.YtfcfpdcjepobpaaGreatEvA7
import Derived.Test.YtfcfpdcjepobpaaGreatEvA12
import Derived.Test.YtfcfpdcjepobpaaGreatEvA17
import Derived.Test.YtfcfpdcjepobpaaGreatRows
import Derived.WalkKit
import Derived.ProofKit
import Derived.OpenShut
import Derived.Carry
/- FnBlurred: the statement holds of the given program, at every input; no condition. -/
set_option linter.unusedSimpArgs false
set_option linter.unusedVariables false
set_option linter.unnecessarySimpa false
noncomputable section

namespace Go.Proofs.YtfcfpdcjepobpaaGreat.fnBlurred
open Go.ChangeShapes Go.WideShapes Go.ChangeAt Go.RowKit Go.Ev
open Go.Ev.Enc (enc)
open Go.Ev.Wf (wf)
theorem dec_5 {ds:List D} (h:Typed Tryz.prog 5 ds):∃ x:U8,enc x=ds∧wf x:=typed_u8 Tryz.underlying5 h
theorem dec_22 {ds:List D} (h:Typed Tryz.prog 22 ds):∃ x:(List U8),enc x=ds∧wf x:=typed_slice Tryz.underlying22 (fun _=>dec_5) h
theorem own:ownKnob Tryz.prog.godebug=none:=by kernel_rfl
theorem laid:laidOutB Tryz.prog=true:=by kernel_rfl
theorem r22:Tryz.prog.readableRec 22=true:=by kernel_rfl
theorem s22:(22:Nat) < Tryz.prog.types.size:=of_decide_eq_true (by kernel_rfl)
def L:List Nat:=[5,22]
theorem hL:closedB Tryz.prog L=true:=by kernel_rfl
theorem hF {d0:List D} (h0:Typed Tryz.prog 22 d0):C4 [argAV Tryz.prog 22 d0]=some (.one (.s (.bool true))):=by
 obtain ⟨x0,rfl,w0⟩:=dec_22 h0
 have h:=C4_eq (law_Blurred w0)
 have e0:argAV Tryz.prog 22 (enc x0)=av .shr x0:=by unfold argAV;rw [Tryz.underlying22];rfl
 rw [e0,h]
 rfl
set_option maxRecDepth 100000 in
theorem lifted (os:Os) (started:os.Started) (H:Type) (enc:TypeId × Value→H) :
 ReturnsInHanded {} Tryz.checked os 4 .any (Rows.fnBlurredSpec.pre6 enc Tryz.prog Tryz.f4 Rows.fnBlurredRow.domain false) (Rows.fnBlurredSpec.post enc Tryz.prog Tryz.f4 false true false false):=by
 refine returnsInHanded_of_change (C:=Tryz.checked) own started (by kernel_rfl) Tryz.func4
  (ChangeSpec.witness6 (enc:=enc) (C:=Tryz.checked) false ⟨#[],#[.slice none 0 0],[]⟩ 8 (by kernel_rfl) (by kernel_rfl) (by kernel_rfl) (by kernel_rfl)) ?_
 intro W base args ds gs before hval0 hW hcnd _
 have hval:∀ (j:Nat) t v,Tryz.f4.params[j]?=some t→args[j]?=some v→Value.okWide Tryz.prog W .any base t v:=hval0
 have hW':=hW
 obtain ⟨p,q,hA0,hV,rfl,hfz,hnd⟩:=hW
 have hA:DataW.TrodAll enc Tryz.prog W 0 (fun _=>true) true Tryz.f4.params.toList args.toList ds p:=hA0
 rw [Tryz.params4] at hA hval
 obtain ⟨v0,vs0,d0,ds0,p0,q0,hargs,rfl,rfl,h0,r0⟩:=trodAll_cons hA
 obtain ⟨rfl,rfl,rfl⟩:=trodAll_nil r0
 obtain rfl:args = #[v0]:=by cases args;simp_all
 obtain ⟨rfl,rfl⟩:=trodVars_none hV
 obtain ⟨x0,t0,a0⟩:=arg_ok hL (t:=22) (by decide) (hval 0 22 v0 rfl rfl) h0
 have hlt:∀ x∈(p0 ++ []) ++ [],x.block < W.heap.size:=fun x hx=>hW'.lt x hx
 refine (pc4.law (hF t0) rfl (fun i x v hi hv o=>?_)).mono fun e W' he=>?_
 ·match i with
  | 0=>cases hi;cases hv;exact a0 o
  | i+1=>simp at hi
 ·obtain ⟨rfl,hk,hsz,hold⟩:=he
  have hb:Below W.heap.size W W':=⟨hk.1.1,hk.1.2.1,hk.1.2.2,hsz,hold⟩
  refine ⟨_,rfl,post_read (pa:=p0 ++ []) hW' (fun _ _ _=>(trodAll_cons_mk (shut_bool Tryz.underlying4 _) trodAll_mk0)) (fun sp hsp=>?_) (fun _=>rfl)
   (hb.frame _) (fun a ha=>(hk.2 a ha).2) (ok_one (by kernel_rfl) rfl (okWide_bool_mk Tryz.underlying4 _))⟩
  exact trodAll_cons_mk (WideElems.Trod_stays laid r22 s22 h0 (fun x hx=>hb.same (hlt x (by simp [hx]))) (fun x hx=>hsp x (by simp [hx]))) trodAll_mk0
theorem over:Rows.fnBlurredRow.holds Tryz.pinned (OpenSpec.ofChange Rows.fnBlurredSpec) :=
 OpenClaim.holds_of_wide 4 Tryz.f4 rfl rfl rfl rfl rfl rfl rfl ⟨rfl,rfl,rfl,rfl,rfl⟩ rfl rfl rfl rfl rfl (by kernel_rfl) Tryz.func4 (by kernel_rfl)
  (of_decide_eq_true (by kernel_rfl)) (by unfold Func.isWrapper;first | (rw [if_pos (by decide +kernel)];kernel_rfl) | (rw [if_neg (by decide +kernel)];exact ⟨rfl,rfl⟩))
  (fun os started H enc _=>lifted os started H enc)

theorem said:Rows.FnBlurredSaid:=over
end Go.Proofs.YtfcfpdcjepobpaaGreat.fnBlurred
