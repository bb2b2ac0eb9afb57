import Derived.Test.YtahcfnjgllpkdaaEvDec
import Derived.Test.YtahcfnjgllpkdaaEvW2
import Derived.Test.YtahcfnjgllpkdaaRows
import Derived.WalkKit
import Derived.ProofKit
import Derived.OpenShut
import Derived.Carry
/- FnExactEqualSession: the statement holds of the given program, at every input; no condition. -/
namespace Go.Proofs.Ytahcfnjgllpkdaa.fnExactEqualSession
open Go.ChangeShapes Go.WideShapes Go.ChangeAt Go.RowKit Go.Ev
open Go.Ev.Enc (enc)
open Go.Ev.Wf (wf)
set_option linter.unusedVariables false
theorem dec_9 {ds : List D} (h : Typed Try.prog 9 ds) : ∃ x : ByteArray, enc x = ds ∧ wf x := typed_string Try.underlying9 h
theorem dec_27 {ds : List D} (h : Typed Try.prog 27 ds) : ∃ x : (List ByteArray), enc x = ds ∧ wf x := typed_slice Try.underlying27 (fun _ => dec_9) h
theorem dec_3 {ds : List D} (h : Typed Try.prog 3 ds) : ∃ x : Int, enc x = ds ∧ wf x := typed_int Try.underlying3 h
theorem dec_164 {ds : List D} (h : Typed Try.prog 164 ds) : ∃ x : TStmt, enc x = ds ∧ wf x := by
  obtain ⟨xs, hl, rfl, hx⟩ := typed_struct Try.underlying164 h
  match xs, hl with
  | [x0, x1, x2], _ =>
    obtain ⟨y0, rfl, w0⟩ := dec_3 (hx 0 _ x0 rfl rfl)
    obtain ⟨y1, rfl, w1⟩ := dec_9 (hx 1 _ x1 rfl rfl)
    obtain ⟨y2, rfl, w2⟩ := dec_9 (hx 2 _ x2 rfl rfl)
    exact ⟨⟨y0, y1, y2⟩, rfl, ⟨w0, w1, w2⟩⟩
theorem dec_166 {ds : List D} (h : Typed Try.prog 166 ds) : ∃ x : TEdge, enc x = ds ∧ wf x := by
  obtain ⟨xs, hl, rfl, hx⟩ := typed_struct Try.underlying166 h
  match xs, hl with
  | [x0, x1, x2], _ =>
    obtain ⟨y0, rfl, w0⟩ := dec_3 (hx 0 _ x0 rfl rfl)
    obtain ⟨y1, rfl, w1⟩ := dec_3 (hx 1 _ x1 rfl rfl)
    obtain ⟨y2, rfl, w2⟩ := dec_164 (hx 2 _ x2 rfl rfl)
    exact ⟨⟨y0, y1, y2⟩, rfl, ⟨w0, w1, w2⟩⟩
theorem dec_28 {ds : List D} (h : Typed Try.prog 28 ds) : ∃ x : (List TEdge), enc x = ds ∧ wf x := typed_slice Try.underlying28 (fun _ => dec_166) h
theorem dec_30 {ds : List D} (h : Typed Try.prog 30 ds) : ∃ x : TProgram, enc x = ds ∧ wf x := by
  obtain ⟨xs, hl, rfl, hx⟩ := typed_struct Try.underlying30 h
  match xs, hl with
  | [x0, x1, x2], _ =>
    obtain ⟨y0, rfl, w0⟩ := dec_27 (hx 0 _ x0 rfl rfl)
    obtain ⟨y1, rfl, w1⟩ := dec_3 (hx 1 _ x1 rfl rfl)
    obtain ⟨y2, rfl, w2⟩ := dec_28 (hx 2 _ x2 rfl rfl)
    exact ⟨⟨y0, y1, y2⟩, rfl, ⟨w0, w1, w2⟩⟩
theorem dec_44 {ds : List D} (h : Typed Try.prog 44 ds) : ∃ x : (List Int), enc x = ds ∧ wf x := typed_slice Try.underlying44 (fun _ => dec_3) h
theorem dec_130 {ds : List D} (h : Typed Try.prog 130 ds) : ∃ x : THeap, enc x = ds ∧ wf x := by
  obtain ⟨xs, hl, rfl, hx⟩ := typed_struct Try.underlying130 h
  match xs, hl with
  | [x0, x1], _ =>
    obtain ⟨y0, rfl, w0⟩ := dec_44 (hx 0 _ x0 rfl rfl)
    obtain ⟨y1, rfl, w1⟩ := dec_44 (hx 1 _ x1 rfl rfl)
    exact ⟨⟨y0, y1⟩, rfl, ⟨w0, w1⟩⟩
theorem dec_31 {ds : List D} (h : Typed Try.prog 31 ds) : ∃ x : (List THeap), enc x = ds ∧ wf x := typed_slice Try.underlying31 (fun _ => dec_130) h
theorem dec_33 {ds : List D} (h : Typed Try.prog 33 ds) : ∃ x : TSession, enc x = ds ∧ wf x := by
  obtain ⟨xs, hl, rfl, hx⟩ := typed_struct Try.underlying33 h
  match xs, hl with
  | [x0, x1], _ =>
    obtain ⟨y0, rfl, w0⟩ := dec_30 (hx 0 _ x0 rfl rfl)
    obtain ⟨y1, rfl, w1⟩ := dec_31 (hx 1 _ x1 rfl rfl)
    exact ⟨⟨y0, y1⟩, rfl, ⟨w0, w1⟩⟩
theorem own : ownKnob Try.prog.godebug = none := by kernel_rfl
theorem laid : laidOutB Try.prog = true := by kernel_rfl
theorem r33 : Try.prog.readableRec 33 = true := by kernel_rfl
theorem s33 : (33 : Nat) < Try.prog.types.size := of_decide_eq_true (by kernel_rfl)
def L : List Nat := [3, 9, 27, 28, 30, 31, 33, 44, 130, 164, 166]
theorem hL : closedB Try.prog L = true := by kernel_rfl
theorem hF {d0 d1 : List D} (h0 : Typed Try.prog 33 d0) (h1 : Typed Try.prog 33 d1) : C4 [argAV Try.prog 33 d0, argAV Try.prog 33 d1] = some (.one (.s (.bool true))) := by
  obtain ⟨x0, rfl, w0⟩ := dec_33 h0
  obtain ⟨x1, rfl, w1⟩ := dec_33 h1
  have h := C4_eq (law_EqualSession w0 w1)
  have e0 : argAV Try.prog 33 (enc x0) = av .shr x0 := by unfold argAV; rw [Try.underlying33]; rfl
  have e1 : argAV Try.prog 33 (enc x1) = av .shr x1 := by unfold argAV; rw [Try.underlying33]; rfl
  rw [e0, e1, h]
  rfl
set_option maxRecDepth 100000 in
theorem lifted (os : Os) (started : os.Started) (H : Type) (enc : TypeId × Value → H) :
    ReturnsInHanded {} Try.checked os 4 .any (Rows.fnExactEqualSessionSpec.pre6 enc Try.prog Try.f4 Rows.fnExactEqualSessionRow.domain false) (Rows.fnExactEqualSessionSpec.post enc Try.prog Try.f4 false true false false) := by
  refine returnsInHanded_of_change (C := Try.checked) own started (by kernel_rfl) Try.func4
    (ChangeSpec.witness6 (enc := enc) (C := Try.checked) false ⟨#[], #[.agg #[.slice none 0 0, .int .i64 0, .slice none 0 0, .slice none 0 0], .agg #[.slice none 0 0, .int .i64 0, .slice none 0 0, .slice none 0 0]], []⟩ 8 (by kernel_rfl) (by kernel_rfl) (by kernel_rfl) (by kernel_rfl)) ?_
  intro W base args ds gs before hval0 hW hcnd _
  have hval : ∀ (j : Nat) t v, Try.f4.params[j]? = some t → args[j]? = some v → Value.okWide Try.prog W .any base t v := hval0
  have hW' := hW
  obtain ⟨p, q, hA0, hV, rfl, hfz, hnd⟩ := hW
  have hA : DataW.TrodAll enc Try.prog W 0 (fun _ => true) true Try.f4.params.toList args.toList ds p := hA0
  rw [Try.params4] at hA hval
  obtain ⟨v0, vs0, d0, ds0, p0, q0, hargs, rfl, rfl, h0, r0⟩ := trodAll_cons hA
  obtain ⟨v1, vs1, d1, ds1, p1, q1, rfl, rfl, rfl, h1, r1⟩ := trodAll_cons r0
  obtain ⟨rfl, rfl, rfl⟩ := trodAll_nil r1
  obtain rfl : args = #[v0, v1] := by cases args; simp_all
  obtain ⟨rfl, rfl⟩ := trodVars_none hV
  obtain ⟨x0, t0, a0⟩ := arg_ok hL (t := 33) (by decide) (hval 0 33 v0 rfl rfl) h0
  obtain ⟨x1, t1, a1⟩ := arg_ok hL (t := 33) (by decide) (hval 1 33 v1 rfl rfl) h1
  have hlt : ∀ x ∈ p0 ++ (p1 ++ []) ++ [], x.block < W.heap.size := fun x hx => hW'.lt x hx
  refine (pc4.law (hF t0 t1) rfl (fun i x v hi hv o => ?_)).mono fun e W' he => ?_
  · match i with
    | 0 => cases hi; cases hv; exact a0 o
    | 1 => cases hi; cases hv; exact a1 o
    | i + 2 => simp at hi
  · obtain ⟨rfl, hk, hsz, hold⟩ := he
    have hb : Below W.heap.size W W' := ⟨hk.1.1, hk.1.2.1, hk.1.2.2, hsz, hold⟩
    refine ⟨_, rfl, post_of_same (pa := p0 ++ (p1 ++ [])) (pv := []) hW' (fun _ _ _ => (trodAll_cons_mk (shut_bool Try.underlying4 _) trodAll_mk0)) (fun sp hsp => ?_) (fun _ _ => rfl) rfl
      (hb.frame _) hk.2 (ok_one (by kernel_rfl) rfl (okWide_bool_mk Try.underlying4 _))⟩
    exact trodAll_cons_mk (WideElems.Trod_stays laid r33 s33 h0 (fun x hx => hb.same (hlt x (by simp [hx]))) (fun x hx => hsp x (by simp [hx]))) (trodAll_cons_mk (WideElems.Trod_stays laid r33 s33 h1 (fun x hx => hb.same (hlt x (by simp [hx]))) (fun x hx => hsp x (by simp [hx]))) trodAll_mk0)
theorem over : Rows.fnExactEqualSessionRow.holds Try.pinned (OpenSpec.ofChange Rows.fnExactEqualSessionSpec) :=
  OpenClaim.holds_of_wide 4 Try.f4 rfl rfl rfl rfl rfl rfl rfl ⟨rfl, rfl, rfl, rfl, rfl⟩ rfl rfl rfl rfl rfl (by kernel_rfl) Try.func4 (by kernel_rfl)
    (of_decide_eq_true (by kernel_rfl)) (by unfold Func.isWrapper; first | (rw [if_pos (by decide +kernel)]; kernel_rfl) | (rw [if_neg (by decide +kernel)]; exact ⟨rfl, rfl⟩))
    (fun os started H enc _ => lifted os started H enc)
theorem said : Rows.FnExactEqualSessionSaid := over
end Go.Proofs.Ytahcfnjgllpkdaa.fnExactEqualSession
