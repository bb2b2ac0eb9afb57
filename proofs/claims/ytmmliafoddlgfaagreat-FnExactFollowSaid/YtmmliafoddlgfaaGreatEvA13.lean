import Derived.Test.YtmmliafoddlgfaaGreatEvA9
import Derived.Test.YtmmliafoddlgfaaGreatEvA12
import Derived.KernelRfl
set_option linter.unusedSimpArgs false
set_option linter.unusedVariables false
set_option linter.unnecessarySimpa false
namespace Go.Proofs
open Go.Ev
open Enc (enc)
abbrev G60 (g : Cfg) : Prop := Has Tryz.prog g 60 Tryz.f60 [] [(2, rowKp)] [(110, C110)] []
set_option maxHeartbeats 4000000 in
set_option maxRecDepth 100000 in
theorem mk60 {g : Cfg} (G : G60 g) : MkOK g 60 false mkF_markStringS := by
  have gP := G.P; have gt := G.tk; have gr := G.ro; have gg := G.gh
  have c_110 := G.cs (110, C110) (by simp)
  refine mark_row_ok fun xs k d e r mem hx hd hT hR => ?_
  have hl : xs.length ≤ 9223372036854775806 := by have := hx.1; omega
  refine start_m (Tryz.f60.body.getD .skip) [.tmp 4] G Tryz.func60 (by kernel_rfl) (by simp [Tryz.ntmps60]) rfl ?_
  simp [Tryz.f60, gP, gt, gr, gg]
  refine goal_rows mkE_markStringS xs k d r mem (G.kp (2, rowKp) (by simp)) (by simp) (by simp) (by simp) hR (MemU.refl _ _ _) hl ?_ ?_ ?_
  · intro i A B x k' σ' hx2 hi hi2 hA e0 e1 e5 R0 M0
    have hxl := hx.2 x hx2
    have hlt : ltI (i : Int) (xs.length : Int) = true := by simpa [ltI] using hi
    have hinc : addI (i : Int) 1 = ((i + 1 : Nat) : Int) := addI_eq (by omega) (by omega)
    have R0 : RowI σ'.mem d r (A ++ ((.sc (.string x)) :: B)) := R0
    have C0 := R0.1
    obtain ⟨P0, hP0⟩ : ∃ P : List D, P = A ++ [] := ⟨_, rfl⟩
    have l0 : P0.length = i := by rw [hP0, List.length_append, hA]; simp
    have q0 : A ++ ((.sc (.string x)) :: B) = P0 ++ ((.sc (.string x)) :: (B)) := by rw [hP0, List.append_assoc]; rfl
    obtain ⟨w1, R1, M1'⟩ := row_store (v' := .string (textF k')) q0 R0
    have q0' : P0 ++ (.sc (.string (textF k')) :: (B)) = A ++ ((.sc (.string (textF k'))) :: B) := by rw [hP0, List.append_assoc]; rfl
    rw [q0'] at w1 R1 M1'
    rw [l0] at w1
    have M1 := M0.trans M1'
    have h0 : i + 1 ≤ (bxL d r 0 (A ++ ((.sc (.string x)) :: B))).length := by rw [bxL_length, q0, List.length_append, List.length_cons, l0]; omega
    simp [gP, gt, gr, gg, e0, e1, e5, hlt, hinc, hi, c_110, C110_k, C0, w1, h0]
    exact ⟨_, rfl, by simp [e0], by simp [mkE_markStringS], by simp, R1, M1⟩
  · intro z k' σ' e0 e1 e5
    have hlt : ltI (xs.length : Int) (xs.length : Int) = false := by simp [ltI]
    simp [gP, gt, gr, gg, e0, e1, e5, hlt]
    exact ⟨_, rfl, by simp [e1], rfl⟩
  · intro σ' e1 eR eM
    have hT2 : memKill (fun k => decide (e < k.1)) σ'.mem = σ'.mem := eM.tight hd hT
    simp [gP, gt, gr, gg, e1, Goal, FnEndM, hT2]
    exact ⟨_, _, ⟨rfl, rfl⟩, rfl, eM, eR⟩

abbrev G61 (g : Cfg) : Prop := Has Tryz.prog g 61 Tryz.f61 [] [(2, rowKp)] [(110, C110)] []
set_option maxHeartbeats 4000000 in
set_option maxRecDepth 100000 in
theorem mk61 {g : Cfg} (G : G61 g) : MkOK g 61 false mkF_markEdgeS := by
  have gP := G.P; have gt := G.tk; have gr := G.ro; have gg := G.gh
  have c_110 := G.cs (110, C110) (by simp)
  refine mark_row_ok fun xs k d e r mem hx hd hT hR => ?_
  have hl : xs.length ≤ 9223372036854775806 := by have := hx.1; omega
  refine start_m (Tryz.f61.body.getD .skip) [.tmp 4] G Tryz.func61 (by kernel_rfl) (by simp [Tryz.ntmps61]) rfl ?_
  simp [Tryz.f61, gP, gt, gr, gg]
  refine goal_rows mkE_markEdgeS xs k d r mem (G.kp (2, rowKp) (by simp)) (by simp) (by simp) (by simp) hR (MemU.refl _ _ _) hl ?_ ?_ ?_
  · intro i A B x k' σ' hx2 hi hi2 hA e0 e1 e5 R0 M0
    have hxl := hx.2 x hx2
    have hlt : ltI (i : Int) (xs.length : Int) = true := by simpa [ltI] using hi
    have hinc : addI (i : Int) 1 = ((i + 1 : Nat) : Int) := addI_eq (by omega) (by omega)
    have R0 : RowI σ'.mem d r (A ++ ((.sc (.int .i64 x.from_)) :: (.sc (.int .i64 x.to_)) :: (.sc (.int .i64 x.stmt.kind)) :: (.sc (.string x.stmt.a)) :: (.sc (.string x.stmt.b)) :: B)) := R0
    have C0 := R0.1
    obtain ⟨P0, hP0⟩ : ∃ P : List D, P = A ++ [] := ⟨_, rfl⟩
    have l0 : P0.length = i * 5 := by rw [hP0, List.length_append, hA]; simp
    have q0 : A ++ ((.sc (.int .i64 x.from_)) :: (.sc (.int .i64 x.to_)) :: (.sc (.int .i64 x.stmt.kind)) :: (.sc (.string x.stmt.a)) :: (.sc (.string x.stmt.b)) :: B) = P0 ++ ((.sc (.int .i64 x.from_)) :: ((.sc (.int .i64 x.to_)) :: (.sc (.int .i64 x.stmt.kind)) :: (.sc (.string x.stmt.a)) :: (.sc (.string x.stmt.b)) :: B)) := by rw [hP0, List.append_assoc]; rfl
    obtain ⟨w1, R1, M1'⟩ := row_store (v' := .int .i64 k') q0 R0
    have q0' : P0 ++ (.sc (.int .i64 k') :: ((.sc (.int .i64 x.to_)) :: (.sc (.int .i64 x.stmt.kind)) :: (.sc (.string x.stmt.a)) :: (.sc (.string x.stmt.b)) :: B)) = A ++ ((.sc (.int .i64 k')) :: (.sc (.int .i64 x.to_)) :: (.sc (.int .i64 x.stmt.kind)) :: (.sc (.string x.stmt.a)) :: (.sc (.string x.stmt.b)) :: B) := by rw [hP0, List.append_assoc]; rfl
    rw [q0'] at w1 R1 M1'
    rw [l0] at w1
    have M1 := M0.trans M1'
    have h0 : i * 5 + 1 ≤ (bxL d r 0 (A ++ ((.sc (.int .i64 x.from_)) :: (.sc (.int .i64 x.to_)) :: (.sc (.int .i64 x.stmt.kind)) :: (.sc (.string x.stmt.a)) :: (.sc (.string x.stmt.b)) :: B))).length := by rw [bxL_length, q0, List.length_append, List.length_cons, l0]; omega
    obtain ⟨P1, hP1⟩ : ∃ P : List D, P = A ++ [.sc (.int .i64 k')] := ⟨_, rfl⟩
    have l1 : P1.length = i * 5 + 1 := by rw [hP1, List.length_append, hA]; simp
    have q1 : A ++ ((.sc (.int .i64 k')) :: (.sc (.int .i64 x.to_)) :: (.sc (.int .i64 x.stmt.kind)) :: (.sc (.string x.stmt.a)) :: (.sc (.string x.stmt.b)) :: B) = P1 ++ ((.sc (.int .i64 x.to_)) :: ((.sc (.int .i64 x.stmt.kind)) :: (.sc (.string x.stmt.a)) :: (.sc (.string x.stmt.b)) :: B)) := by rw [hP1, List.append_assoc]; rfl
    obtain ⟨w2, R2, M2'⟩ := row_store (v' := .int .i64 (addI k' 1)) q1 R1
    have q1' : P1 ++ (.sc (.int .i64 (addI k' 1)) :: ((.sc (.int .i64 x.stmt.kind)) :: (.sc (.string x.stmt.a)) :: (.sc (.string x.stmt.b)) :: B)) = A ++ ((.sc (.int .i64 k')) :: (.sc (.int .i64 (addI k' 1))) :: (.sc (.int .i64 x.stmt.kind)) :: (.sc (.string x.stmt.a)) :: (.sc (.string x.stmt.b)) :: B) := by rw [hP1, List.append_assoc]; rfl
    rw [q1'] at w2 R2 M2'
    rw [l1] at w2
    have M2 := M1.trans M2'
    have h1 : i * 5 + 1 + 1 ≤ (bxL d r 0 (A ++ ((.sc (.int .i64 k')) :: (.sc (.int .i64 x.to_)) :: (.sc (.int .i64 x.stmt.kind)) :: (.sc (.string x.stmt.a)) :: (.sc (.string x.stmt.b)) :: B))).length := by rw [bxL_length, q1, List.length_append, List.length_cons, l1]; omega
    obtain ⟨P2, hP2⟩ : ∃ P : List D, P = A ++ [.sc (.int .i64 k'), .sc (.int .i64 (addI k' 1))] := ⟨_, rfl⟩
    have l2 : P2.length = i * 5 + 2 := by rw [hP2, List.length_append, hA]; simp
    have q2 : A ++ ((.sc (.int .i64 k')) :: (.sc (.int .i64 (addI k' 1))) :: (.sc (.int .i64 x.stmt.kind)) :: (.sc (.string x.stmt.a)) :: (.sc (.string x.stmt.b)) :: B) = P2 ++ ((.sc (.int .i64 x.stmt.kind)) :: ((.sc (.string x.stmt.a)) :: (.sc (.string x.stmt.b)) :: B)) := by rw [hP2, List.append_assoc]; rfl
    obtain ⟨w3, R3, M3'⟩ := row_store (v' := .int .i64 (addI (addI k' 1) 1)) q2 R2
    have q2' : P2 ++ (.sc (.int .i64 (addI (addI k' 1) 1)) :: ((.sc (.string x.stmt.a)) :: (.sc (.string x.stmt.b)) :: B)) = A ++ ((.sc (.int .i64 k')) :: (.sc (.int .i64 (addI k' 1))) :: (.sc (.int .i64 (addI (addI k' 1) 1))) :: (.sc (.string x.stmt.a)) :: (.sc (.string x.stmt.b)) :: B) := by rw [hP2, List.append_assoc]; rfl
    rw [q2'] at w3 R3 M3'
    rw [l2] at w3
    have M3 := M2.trans M3'
    have h2 : i * 5 + 2 + 1 ≤ (bxL d r 0 (A ++ ((.sc (.int .i64 k')) :: (.sc (.int .i64 (addI k' 1))) :: (.sc (.int .i64 x.stmt.kind)) :: (.sc (.string x.stmt.a)) :: (.sc (.string x.stmt.b)) :: B))).length := by rw [bxL_length, q2, List.length_append, List.length_cons, l2]; omega
    obtain ⟨P3, hP3⟩ : ∃ P : List D, P = A ++ [.sc (.int .i64 k'), .sc (.int .i64 (addI k' 1)), .sc (.int .i64 (addI (addI k' 1) 1))] := ⟨_, rfl⟩
    have l3 : P3.length = i * 5 + 3 := by rw [hP3, List.length_append, hA]; simp
    have q3 : A ++ ((.sc (.int .i64 k')) :: (.sc (.int .i64 (addI k' 1))) :: (.sc (.int .i64 (addI (addI k' 1) 1))) :: (.sc (.string x.stmt.a)) :: (.sc (.string x.stmt.b)) :: B) = P3 ++ ((.sc (.string x.stmt.a)) :: ((.sc (.string x.stmt.b)) :: B)) := by rw [hP3, List.append_assoc]; rfl
    obtain ⟨w4, R4, M4'⟩ := row_store (v' := .string (textF (addI (addI (addI k' 1) 1) 1))) q3 R3
    have q3' : P3 ++ (.sc (.string (textF (addI (addI (addI k' 1) 1) 1))) :: ((.sc (.string x.stmt.b)) :: B)) = A ++ ((.sc (.int .i64 k')) :: (.sc (.int .i64 (addI k' 1))) :: (.sc (.int .i64 (addI (addI k' 1) 1))) :: (.sc (.string (textF (addI (addI (addI k' 1) 1) 1)))) :: (.sc (.string x.stmt.b)) :: B) := by rw [hP3, List.append_assoc]; rfl
    rw [q3'] at w4 R4 M4'
    rw [l3] at w4
    have M4 := M3.trans M4'
    have h3 : i * 5 + 3 + 1 ≤ (bxL d r 0 (A ++ ((.sc (.int .i64 k')) :: (.sc (.int .i64 (addI k' 1))) :: (.sc (.int .i64 (addI (addI k' 1) 1))) :: (.sc (.string x.stmt.a)) :: (.sc (.string x.stmt.b)) :: B))).length := by rw [bxL_length, q3, List.length_append, List.length_cons, l3]; omega
    obtain ⟨P4, hP4⟩ : ∃ P : List D, P = A ++ [.sc (.int .i64 k'), .sc (.int .i64 (addI k' 1)), .sc (.int .i64 (addI (addI k' 1) 1)), .sc (.string (textF (addI (addI (addI k' 1) 1) 1)))] := ⟨_, rfl⟩
    have l4 : P4.length = i * 5 + 4 := by rw [hP4, List.length_append, hA]; simp
    have q4 : A ++ ((.sc (.int .i64 k')) :: (.sc (.int .i64 (addI k' 1))) :: (.sc (.int .i64 (addI (addI k' 1) 1))) :: (.sc (.string (textF (addI (addI (addI k' 1) 1) 1)))) :: (.sc (.string x.stmt.b)) :: B) = P4 ++ ((.sc (.string x.stmt.b)) :: (B)) := by rw [hP4, List.append_assoc]; rfl
    obtain ⟨w5, R5, M5'⟩ := row_store (v' := .string (textF (addI (addI (addI (addI k' 1) 1) 1) 1))) q4 R4
    have q4' : P4 ++ (.sc (.string (textF (addI (addI (addI (addI k' 1) 1) 1) 1))) :: (B)) = A ++ ((.sc (.int .i64 k')) :: (.sc (.int .i64 (addI k' 1))) :: (.sc (.int .i64 (addI (addI k' 1) 1))) :: (.sc (.string (textF (addI (addI (addI k' 1) 1) 1)))) :: (.sc (.string (textF (addI (addI (addI (addI k' 1) 1) 1) 1)))) :: B) := by rw [hP4, List.append_assoc]; rfl
    rw [q4'] at w5 R5 M5'
    rw [l4] at w5
    have M5 := M4.trans M5'
    have h4 : i * 5 + 4 + 1 ≤ (bxL d r 0 (A ++ ((.sc (.int .i64 k')) :: (.sc (.int .i64 (addI k' 1))) :: (.sc (.int .i64 (addI (addI k' 1) 1))) :: (.sc (.string (textF (addI (addI (addI k' 1) 1) 1)))) :: (.sc (.string x.stmt.b)) :: B))).length := by rw [bxL_length, q4, List.length_append, List.length_cons, l4]; omega
    simp [gP, gt, gr, gg, e0, e1, e5, hlt, hinc, hi, c_110, C110_k, C0, w1, h0, w2, h1, w3, h2, w4, h3, w5, h4]
    exact ⟨_, rfl, by simp [e0], by simp [mkE_markEdgeS], by simp, R5, M5⟩
  · intro z k' σ' e0 e1 e5
    have hlt : ltI (xs.length : Int) (xs.length : Int) = false := by simp [ltI]
    simp [gP, gt, gr, gg, e0, e1, e5, hlt]
    exact ⟨_, rfl, by simp [e1], rfl⟩
  · intro σ' e1 eR eM
    have hT2 : memKill (fun k => decide (e < k.1)) σ'.mem = σ'.mem := eM.tight hd hT
    simp [gP, gt, gr, gg, e1, Goal, FnEndM, hT2]
    exact ⟨_, _, ⟨rfl, rfl⟩, rfl, eM, eR⟩

abbrev G19 (g : Cfg) : Prop := Has Tryz.prog g 19 Tryz.f19 [] [] [] []
set_option maxHeartbeats 4000000 in
set_option maxRecDepth 100000 in
theorem mk19 {g : Cfg} (G : G19 g) (G_60 : G60 g) (G_61 : G61 g) : MkOK g 19 true mkF_markProgram := by
  have gP := G.P; have gt := G.tk; have gr := G.ro; have gg := G.gh
  have i_60 := G_60.no
  have i_61 := G_61.no
  intro x k hx
  have h0 := mk60 G_60 x.vars k hx.1
  have h1 := mk61 G_61 x.edges ((mkF_markStringS x.vars k).2) hx.2
  have eX : enc x = [.sl x.vars.length (encL x.vars), .sc (.int .i64 x.points), .sl x.edges.length (encL x.edges)] := rfl
  have eY : enc (mkF_markProgram x k).1 = [.sl ((mkF_markStringS x.vars k).1).length (encL ((mkF_markStringS x.vars k).1)), .sc (.int .i64 x.points), .sl ((mkF_markEdgeS x.edges ((mkF_markStringS x.vars k).2)).1).length (encL ((mkF_markEdgeS x.edges ((mkF_markStringS x.vars k).2)).1))] := rfl
  refine ⟨fun d p i => ?_, fun d e p i mem hd hT hs => ?_⟩
  · rw [eX, eY]
    simp only [bxL]
    have e0 := h0.1 d p (i)
    have e1 := h1.1 d p (i + 2)
    simp only [enc_list, bxL, List.cons.injEq, and_true, List.cons_append, List.nil_append] at e0 e1
    rw [e0, e1]
  · have n0 : mem (e + 1, 2) = none := hT.none (by simp)
    rw [eX] at hs ⊢
    rw [eY]
    have ha : avC true (bxL d p i [.sl x.vars.length (encL x.vars), .sc (.int .i64 x.points), .sl x.edges.length (encL x.edges)]) = .ag [.bs (d, pk (p ++ [i])) x.vars.length (szD x.vars.length (encL x.vars)), .s (.int .i64 x.points), .bs (d, pk (p ++ [i + 2])) x.edges.length (szD x.edges.length (encL x.edges))] := rfl
    rw [ha]
    suffices hh : ∃ R m, callo g e 19 [.ag [.bs (d, pk (p ++ [i])) x.vars.length (szD x.vars.length (encL x.vars)), .s (.int .i64 x.points), .bs (d, pk (p ++ [i + 2])) x.edges.length (szD x.edges.length (encL x.edges))], .one (.s (.int .i64 k))] mem = some (R, m) ∧ R = .one (.s (.int .i64 (mkF_markProgram x k).2)) ∧ MemR mem m d p i 3 ∧ subL m d p i [.sl ((mkF_markStringS x.vars k).1).length (encL ((mkF_markStringS x.vars k).1)), .sc (.int .i64 x.points), .sl ((mkF_markEdgeS x.edges ((mkF_markStringS x.vars k).2)).1).length (encL ((mkF_markEdgeS x.edges ((mkF_markStringS x.vars k).2)).1))] by
      obtain ⟨R, m, hc, rfl, hr⟩ := hh
      exact ⟨m, hc, hr⟩
    refine start_m (Tryz.f19.body.getD .skip) [.tmp 4] G Tryz.func19 (by kernel_rfl) (by simp [Tryz.ntmps19]) rfl ?_
    simp [Tryz.f19, gP, gt, gr, gg, n0, i_60, i_61]
    have S0 : subL (upd mem (e + 1, 2) (some [.bs (d, pk (p ++ [i])) x.vars.length (szD x.vars.length (encL x.vars)), .s (.int .i64 x.points), .bs (d, pk (p ++ [i + 2])) x.edges.length (szD x.edges.length (encL x.edges))])) d p i [.sl x.vars.length (encL x.vars), .sc (.int .i64 x.points), .sl x.edges.length (encL x.edges)] := subL_congr (fun j q _ => by rw [upd_get, if_neg (by intro hh; have := (Prod.mk.inj hh).1; omega)]) hs
    have T0 : Tight (e + 1) (upd mem (e + 1, 2) (some [.bs (d, pk (p ++ [i])) x.vars.length (szD x.vars.length (encL x.vars)), .s (.int .i64 x.points), .bs (d, pk (p ++ [i + 2])) x.edges.length (szD x.edges.length (encL x.edges))])) := hT.up.upd (by simp) (by simp; omega)
    have M0 : MemR (upd mem (e + 1, 2) (some [.bs (d, pk (p ++ [i])) x.vars.length (szD x.vars.length (encL x.vars)), .s (.int .i64 x.points), .bs (d, pk (p ++ [i + 2])) x.edges.length (szD x.edges.length (encL x.edges))])) (upd mem (e + 1, 2) (some [.bs (d, pk (p ++ [i])) x.vars.length (szD x.vars.length (encL x.vars)), .s (.int .i64 x.points), .bs (d, pk (p ++ [i + 2])) x.edges.length (szD x.edges.length (encL x.edges))])) d p i 3 := MemR.refl _ _ _ _ _
    obtain ⟨m1, hc1, S1, M1'⟩ := struct_mark (pre := []) h0 rfl (show d ≤ e + 1 by omega) T0 S0
    refine goal_callM _ _ rfl hc1 ?_
    have M1 := M0.trans M1'
    have T1 : Tight (e + 1) m1 := M1.tight (show d ≤ e + 1 by omega) T0
    have b1 : m1 (e + 1, 2) = some [.bs (d, pk (p ++ [i])) x.vars.length (szD x.vars.length (encL x.vars)), .s (.int .i64 x.points), .bs (d, pk (p ++ [i + 2])) x.edges.length (szD x.edges.length (encL x.edges))] := by rw [M1.far _ (fun j q _ _ hh => by have := (Prod.mk.inj hh).1; omega), upd_get, if_pos rfl]
    simp [gP, gt, gr, gg, b1, i_60, i_61]
    obtain ⟨m2, hc2, S2, M2'⟩ := struct_mark (pre := [.sl ((mkF_markStringS x.vars k).1).length (encL ((mkF_markStringS x.vars k).1)), .sc (.int .i64 x.points)]) h1 rfl (show d ≤ e + 1 by omega) T1 S1
    refine goal_callM _ _ rfl hc2 ?_
    have M2 := M1.trans M2'
    have T2 : Tight (e + 1) m2 := M2.tight (show d ≤ e + 1 by omega) T0
    have b2 : m2 (e + 1, 2) = some [.bs (d, pk (p ++ [i])) x.vars.length (szD x.vars.length (encL x.vars)), .s (.int .i64 x.points), .bs (d, pk (p ++ [i + 2])) x.edges.length (szD x.edges.length (encL x.edges))] := by rw [M2.far _ (fun j q _ _ hh => by have := (Prod.mk.inj hh).1; omega), upd_get, if_pos rfl]
    simp [gP, gt, gr, gg, b2, i_60, i_61, Goal, FnEndM]
    exact ⟨_, _, ⟨rfl, rfl⟩, rfl, byval_end hd hT (cs := [.sl x.vars.length (encL x.vars), .sc (.int .i64 x.points), .sl x.edges.length (encL x.edges)]) (i0 := i) M2 S2⟩

abbrev G21 (g : Cfg) : Prop := Has Tryz.prog g 21 Tryz.f21 [] [(2, rowKp)] [] []
set_option maxHeartbeats 4000000 in
set_option maxRecDepth 100000 in
theorem mk21 {g : Cfg} (G : G21 g) : MkOK g 21 false zaj := by
  have gP := G.P; have gt := G.tk; have gr := G.ro; have gg := G.gh
  refine mark_row_ok fun xs k d e r mem hx hd hT hR => ?_
  have hl : xs.length ≤ 9223372036854775806 := by have := hx.1; omega
  refine start_m (Tryz.f21.body.getD .skip) [.tmp 4] G Tryz.func21 (by kernel_rfl) (by simp [Tryz.ntmps21]) rfl ?_
  simp [Tryz.f21, gP, gt, gr, gg]
  refine goal_rows mkE_markIntS xs k d r mem (G.kp (2, rowKp) (by simp)) (by simp) (by simp) (by simp) hR (MemU.refl _ _ _) hl ?_ ?_ ?_
  · intro i A B x k' σ' hx2 hi hi2 hA e0 e1 e5 R0 M0
    have hxl := hx.2 x hx2
    have hlt : ltI (i : Int) (xs.length : Int) = true := by simpa [ltI] using hi
    have hinc : addI (i : Int) 1 = ((i + 1 : Nat) : Int) := addI_eq (by omega) (by omega)
    have R0 : RowI σ'.mem d r (A ++ ((.sc (.int .i64 x)) :: B)) := R0
    have C0 := R0.1
    obtain ⟨P0, hP0⟩ : ∃ P : List D, P = A ++ [] := ⟨_, rfl⟩
    have l0 : P0.length = i := by rw [hP0, List.length_append, hA]; simp
    have q0 : A ++ ((.sc (.int .i64 x)) :: B) = P0 ++ ((.sc (.int .i64 x)) :: (B)) := by rw [hP0, List.append_assoc]; rfl
    obtain ⟨w1, R1, M1'⟩ := row_store (v' := .int .i64 k') q0 R0
    have q0' : P0 ++ (.sc (.int .i64 k') :: (B)) = A ++ ((.sc (.int .i64 k')) :: B) := by rw [hP0, List.append_assoc]; rfl
    rw [q0'] at w1 R1 M1'
    rw [l0] at w1
    have M1 := M0.trans M1'
    have h0 : i + 1 ≤ (bxL d r 0 (A ++ ((.sc (.int .i64 x)) :: B))).length := by rw [bxL_length, q0, List.length_append, List.length_cons, l0]; omega
    simp [gP, gt, gr, gg, e0, e1, e5, hlt, hinc, hi, C0, w1, h0]
    exact ⟨_, rfl, by simp [e0], by simp [mkE_markIntS], by simp, R1, M1⟩
  · intro z k' σ' e0 e1 e5
    have hlt : ltI (xs.length : Int) (xs.length : Int) = false := by simp [ltI]
    simp [gP, gt, gr, gg, e0, e1, e5, hlt]
    exact ⟨_, rfl, by simp [e1], rfl⟩
  · intro σ' e1 eR eM
    have hT2 : memKill (fun k => decide (e < k.1)) σ'.mem = σ'.mem := eM.tight hd hT
    simp [gP, gt, gr, gg, e1, Goal, FnEndM, hT2]
    exact ⟨_, _, ⟨rfl, rfl⟩, rfl, eM, eR⟩

abbrev G20 (g : Cfg) : Prop := Has Tryz.prog g 20 Tryz.f20 [] [] [] []
set_option maxHeartbeats 4000000 in
set_option maxRecDepth 100000 in
theorem mk20 {g : Cfg} (G : G20 g) (G_21 : G21 g) : MkOK g 20 true mkF_markHeap := by
  have gP := G.P; have gt := G.tk; have gr := G.ro; have gg := G.gh
  have i_21 := G_21.no
  intro x k hx
  have h0 := mk21 G_21 x.vars k hx.1
  have h1 := mk21 G_21 x.next ((zaj x.vars k).2) hx.2
  have eX : enc x = [.sl x.vars.length (encL x.vars), .sl x.next.length (encL x.next)] := rfl
  have eY : enc (mkF_markHeap x k).1 = [.sl ((zaj x.vars k).1).length (encL ((zaj x.vars k).1)), .sl ((zaj x.next ((zaj x.vars k).2)).1).length (encL ((zaj x.next ((zaj x.vars k).2)).1))] := rfl
  refine ⟨fun d p i => ?_, fun d e p i mem hd hT hs => ?_⟩
  · rw [eX, eY]
    simp only [bxL]
    have e0 := h0.1 d p (i)
    have e1 := h1.1 d p (i + 1)
    simp only [enc_list, bxL, List.cons.injEq, and_true, List.cons_append, List.nil_append] at e0 e1
    rw [e0, e1]
  · have n0 : mem (e + 1, 2) = none := hT.none (by simp)
    rw [eX] at hs ⊢
    rw [eY]
    have ha : avC true (bxL d p i [.sl x.vars.length (encL x.vars), .sl x.next.length (encL x.next)]) = .ag [.bs (d, pk (p ++ [i])) x.vars.length (szD x.vars.length (encL x.vars)), .bs (d, pk (p ++ [i + 1])) x.next.length (szD x.next.length (encL x.next))] := rfl
    rw [ha]
    suffices hh : ∃ R m, callo g e 20 [.ag [.bs (d, pk (p ++ [i])) x.vars.length (szD x.vars.length (encL x.vars)), .bs (d, pk (p ++ [i + 1])) x.next.length (szD x.next.length (encL x.next))], .one (.s (.int .i64 k))] mem = some (R, m) ∧ R = .one (.s (.int .i64 (mkF_markHeap x k).2)) ∧ MemR mem m d p i 2 ∧ subL m d p i [.sl ((zaj x.vars k).1).length (encL ((zaj x.vars k).1)), .sl ((zaj x.next ((zaj x.vars k).2)).1).length (encL ((zaj x.next ((zaj x.vars k).2)).1))] by
      obtain ⟨R, m, hc, rfl, hr⟩ := hh
      exact ⟨m, hc, hr⟩
    refine start_m (Tryz.f20.body.getD .skip) [.tmp 4] G Tryz.func20 (by kernel_rfl) (by simp [Tryz.ntmps20]) rfl ?_
    simp [Tryz.f20, gP, gt, gr, gg, n0, i_21]
    have S0 : subL (upd mem (e + 1, 2) (some [.bs (d, pk (p ++ [i])) x.vars.length (szD x.vars.length (encL x.vars)), .bs (d, pk (p ++ [i + 1])) x.next.length (szD x.next.length (encL x.next))])) d p i [.sl x.vars.length (encL x.vars), .sl x.next.length (encL x.next)] := subL_congr (fun j q _ => by rw [upd_get, if_neg (by intro hh; have := (Prod.mk.inj hh).1; omega)]) hs
    have T0 : Tight (e + 1) (upd mem (e + 1, 2) (some [.bs (d, pk (p ++ [i])) x.vars.length (szD x.vars.length (encL x.vars)), .bs (d, pk (p ++ [i + 1])) x.next.length (szD x.next.length (encL x.next))])) := hT.up.upd (by simp) (by simp; omega)
    have M0 : MemR (upd mem (e + 1, 2) (some [.bs (d, pk (p ++ [i])) x.vars.length (szD x.vars.length (encL x.vars)), .bs (d, pk (p ++ [i + 1])) x.next.length (szD x.next.length (encL x.next))])) (upd mem (e + 1, 2) (some [.bs (d, pk (p ++ [i])) x.vars.length (szD x.vars.length (encL x.vars)), .bs (d, pk (p ++ [i + 1])) x.next.length (szD x.next.length (encL x.next))])) d p i 2 := MemR.refl _ _ _ _ _
    obtain ⟨m1, hc1, S1, M1'⟩ := struct_mark (pre := []) h0 rfl (show d ≤ e + 1 by omega) T0 S0
    refine goal_callM _ _ rfl hc1 ?_
    have M1 := M0.trans M1'
    have T1 : Tight (e + 1) m1 := M1.tight (show d ≤ e + 1 by omega) T0
    have b1 : m1 (e + 1, 2) = some [.bs (d, pk (p ++ [i])) x.vars.length (szD x.vars.length (encL x.vars)), .bs (d, pk (p ++ [i + 1])) x.next.length (szD x.next.length (encL x.next))] := by rw [M1.far _ (fun j q _ _ hh => by have := (Prod.mk.inj hh).1; omega), upd_get, if_pos rfl]
    simp [gP, gt, gr, gg, b1, i_21]
    obtain ⟨m2, hc2, S2, M2'⟩ := struct_mark (pre := [.sl ((zaj x.vars k).1).length (encL ((zaj x.vars k).1))]) h1 rfl (show d ≤ e + 1 by omega) T1 S1
    refine goal_callM _ _ rfl hc2 ?_
    have M2 := M1.trans M2'
    have T2 : Tight (e + 1) m2 := M2.tight (show d ≤ e + 1 by omega) T0
    have b2 : m2 (e + 1, 2) = some [.bs (d, pk (p ++ [i])) x.vars.length (szD x.vars.length (encL x.vars)), .bs (d, pk (p ++ [i + 1])) x.next.length (szD x.next.length (encL x.next))] := by rw [M2.far _ (fun j q _ _ hh => by have := (Prod.mk.inj hh).1; omega), upd_get, if_pos rfl]
    simp [gP, gt, gr, gg, b2, i_21, Goal, FnEndM]
    exact ⟨_, _, ⟨rfl, rfl⟩, rfl, byval_end hd hT (cs := [.sl x.vars.length (encL x.vars), .sl x.next.length (encL x.next)]) (i0 := i) M2 S2⟩

abbrev G22 (g : Cfg) : Prop := Has Tryz.prog g 22 Tryz.f22 [] [] [] []
set_option maxHeartbeats 4000000 in
set_option maxRecDepth 100000 in
theorem mk22 {g : Cfg} (G : G22 g) (G_20 : G20 g) (G_21 : G21 g) : MkOK g 22 true mkF_markState := by
  have gP := G.P; have gt := G.tk; have gr := G.ro; have gg := G.gh
  have i_20 := G_20.no
  have i_21 := G_21.no
  intro x k hx
  have h0 := mk20 G_20 G_21 x.heap k hx
  have eX : enc x = [.sc (.int .i64 x.point), .sl x.heap.vars.length (encL x.heap.vars), .sl x.heap.next.length (encL x.heap.next)] := rfl
  have eY : enc (mkF_markState x k).1 = [.sc (.int .i64 x.point), .sl ((mkF_markHeap x.heap k).1.vars).length (encL ((mkF_markHeap x.heap k).1.vars)), .sl ((mkF_markHeap x.heap k).1.next).length (encL ((mkF_markHeap x.heap k).1.next))] := rfl
  refine ⟨fun d p i => ?_, fun d e p i mem hd hT hs => ?_⟩
  · rw [eX, eY]
    simp only [bxL]
    have e0 := h0.1 d p (i + 1)
    simp only [enc_list, bxL, List.cons.injEq, and_true, enc_THeap, List.cons_append, List.nil_append] at e0
    simp only [Nat.add_assoc] at *
    simp_all
  · have n0 : mem (e + 1, 2) = none := hT.none (by simp)
    rw [eX] at hs ⊢
    rw [eY]
    have ha : avC true (bxL d p i [.sc (.int .i64 x.point), .sl x.heap.vars.length (encL x.heap.vars), .sl x.heap.next.length (encL x.heap.next)]) = .ag [.s (.int .i64 x.point), .bs (d, pk (p ++ [i + 1])) x.heap.vars.length (szD x.heap.vars.length (encL x.heap.vars)), .bs (d, pk (p ++ [i + 2])) x.heap.next.length (szD x.heap.next.length (encL x.heap.next))] := rfl
    rw [ha]
    suffices hh : ∃ R m, callo g e 22 [.ag [.s (.int .i64 x.point), .bs (d, pk (p ++ [i + 1])) x.heap.vars.length (szD x.heap.vars.length (encL x.heap.vars)), .bs (d, pk (p ++ [i + 2])) x.heap.next.length (szD x.heap.next.length (encL x.heap.next))], .one (.s (.int .i64 k))] mem = some (R, m) ∧ R = .one (.s (.int .i64 (mkF_markState x k).2)) ∧ MemR mem m d p i 3 ∧ subL m d p i [.sc (.int .i64 x.point), .sl ((mkF_markHeap x.heap k).1.vars).length (encL ((mkF_markHeap x.heap k).1.vars)), .sl ((mkF_markHeap x.heap k).1.next).length (encL ((mkF_markHeap x.heap k).1.next))] by
      obtain ⟨R, m, hc, rfl, hr⟩ := hh
      exact ⟨m, hc, hr⟩
    refine start_m (Tryz.f22.body.getD .skip) [.tmp 4] G Tryz.func22 (by kernel_rfl) (by simp [Tryz.ntmps22]) rfl ?_
    simp [Tryz.f22, gP, gt, gr, gg, n0, i_20, i_21]
    have S0 : subL (upd mem (e + 1, 2) (some [.s (.int .i64 x.point), .bs (d, pk (p ++ [i + 1])) x.heap.vars.length (szD x.heap.vars.length (encL x.heap.vars)), .bs (d, pk (p ++ [i + 2])) x.heap.next.length (szD x.heap.next.length (encL x.heap.next))])) d p i [.sc (.int .i64 x.point), .sl x.heap.vars.length (encL x.heap.vars), .sl x.heap.next.length (encL x.heap.next)] := subL_congr (fun j q _ => by rw [upd_get, if_neg (by intro hh; have := (Prod.mk.inj hh).1; omega)]) hs
    have T0 : Tight (e + 1) (upd mem (e + 1, 2) (some [.s (.int .i64 x.point), .bs (d, pk (p ++ [i + 1])) x.heap.vars.length (szD x.heap.vars.length (encL x.heap.vars)), .bs (d, pk (p ++ [i + 2])) x.heap.next.length (szD x.heap.next.length (encL x.heap.next))])) := hT.up.upd (by simp) (by simp; omega)
    have M0 : MemR (upd mem (e + 1, 2) (some [.s (.int .i64 x.point), .bs (d, pk (p ++ [i + 1])) x.heap.vars.length (szD x.heap.vars.length (encL x.heap.vars)), .bs (d, pk (p ++ [i + 2])) x.heap.next.length (szD x.heap.next.length (encL x.heap.next))])) (upd mem (e + 1, 2) (some [.s (.int .i64 x.point), .bs (d, pk (p ++ [i + 1])) x.heap.vars.length (szD x.heap.vars.length (encL x.heap.vars)), .bs (d, pk (p ++ [i + 2])) x.heap.next.length (szD x.heap.next.length (encL x.heap.next))])) d p i 3 := MemR.refl _ _ _ _ _
    obtain ⟨m1, hc1, S1, M1'⟩ := struct_mark (pre := [.sc (.int .i64 x.point)]) h0 rfl (show d ≤ e + 1 by omega) T0 S0
    refine goal_callM _ _ rfl hc1 ?_
    have M1 := M0.trans M1'
    have T1 : Tight (e + 1) m1 := M1.tight (show d ≤ e + 1 by omega) T0
    have b1 : m1 (e + 1, 2) = some [.s (.int .i64 x.point), .bs (d, pk (p ++ [i + 1])) x.heap.vars.length (szD x.heap.vars.length (encL x.heap.vars)), .bs (d, pk (p ++ [i + 2])) x.heap.next.length (szD x.heap.next.length (encL x.heap.next))] := by rw [M1.far _ (fun j q _ _ hh => by have := (Prod.mk.inj hh).1; omega), upd_get, if_pos rfl]
    simp [gP, gt, gr, gg, b1, i_20, i_21, Goal, FnEndM]
    exact ⟨_, _, ⟨rfl, rfl⟩, rfl, byval_end hd hT (cs := [.sc (.int .i64 x.point), .sl x.heap.vars.length (encL x.heap.vars), .sl x.heap.next.length (encL x.heap.next)]) (i0 := i) M1 S1⟩
end Go.Proofs


set_option maxHeartbeats 4000000
set_option maxRecDepth 100000
namespace Go.Proofs
open Go.Ev
noncomputable def C43 : List AV → Option AV := specP (X := (List ByteArray) × Int × Unit) fun x => laws_szStringS x.1 x.2.1
theorem C43_eq {a_ left} {y} (h : laws_szStringS a_ left = some y) : C43 [av .shr a_, av .shr left] = some (Res.res y) := zag (X := (List ByteArray) × Int × Unit) (F := fun x => laws_szStringS x.1 x.2.1) (x := (a_, left, ())) h
noncomputable def g43 : Cfg := { P := Tryz.prog, take := [], keep := [((43, 5), { hd := [0, 1, 5], bx := [], ex := [1], rt := [4] })], gho := [], ctx := [] }
@[simp] theorem g43_s : g43.P = Tryz.prog ∧ g43.take = [] ∧ g43.gho = [] ∧ g43.ro = [] ∧ g43.away = [] ∧ g43.give = [] ∧ g43.octx = [] := by rw [g43]; exact ⟨rfl, rfl, rfl, rfl, rfl, rfl, rfl⟩
theorem w43 {a_ left} {y} (hp : laws_szStringS a_ left = some y) : ∃ m, callo g43 0 43 [av .shr a_, av .shr left] mem0 = some (Res.res y, m) := by
  refine zah (Tryz.f43.body.getD .skip) [.tmp 4] rfl rfl Tryz.func43 (by kernel_rfl) (by kernel_rfl) (by simp [Tryz.ntmps43]) rfl ?_
  unfold laws_szStringS at hp
  simp [Tryz.f43]
  rcases zad hp with ⟨h_1, hp⟩ | ⟨h_1, hp⟩
  ·try simp at h_1
   cases hp
   simp [Goal, FnEnd, h_1]
  ·try simp at h_1
   try simp [h_1]
   obtain ⟨r_18, h_19, hp⟩ := zaa hp
   obtain ⟨I_4, I_4_⟩ : ∃ I : Int × Int → St → Prop, I = (fun (s_2 : Int × Int) (σ : St) => σ.env 0 = .one (.l .shr a_.length (encL a_)) ∧ σ.env 1 = .one (.s (.int .i64 s_2.1)) ∧ σ.env 5 = .one (.s (.int .i64 s_2.2)) ∧ σ.mem = mem0) := ⟨_, rfl⟩
   obtain ⟨X_5, X_5_⟩ : ∃ X : ((Int) ⊕ (Int)) → Out → Prop, X = (fun (r_18 : (Int) ⊕ (Int)) (out : Out) => Sum.elim (fun r_18 => ∃ σ : St, out = .ret σ ∧ σ.env 4 = .one (.s (.int .i64 r_18)) ∧ σ.mem = mem0) (fun r_18 => ∃ σ : St, out = .exit 0 σ ∧ σ.env 1 = .one (.s (.int .i64 r_18)) ∧ σ.mem = mem0) r_18) := ⟨_, rfl⟩
   refine loopP ({ hd := [0, 1, 5], bx := [], ex := [1], rt := [4] }) I_4 X_5 h_19 (by exact rfl) ?_ ?_ ?_
   ·rw [I_4_]
    refine ⟨?_, ?_, ?_, ?_⟩ <;> simp [zab, zac, h_1]
   ·intro s_2 σ_6 a_3 hI hp
    rw [I_4_] at hI
    obtain ⟨q_7, q_8, q_9, q_10⟩ := hI
    try simp [h_1, q_7, q_8, q_9, q_10]
    rcases zad hp with ⟨h_11, hp⟩ | ⟨h_11, hp⟩
    ·try simp at h_11
     obtain ⟨e_12, h_13, hp⟩ := zaa hp
     have b_14 := at_lo h_13
     have b_15 := at_hi h_13
     try simp at b_14 b_15
     have c_16 := seg_at' h_13 0 1 (by decide) (ds := [.sc (.string e_12)]) rfl
     try simp at c_16
     try simp [h_1, q_7, q_8, q_9, q_10, h_11, b_14, b_15, c_16]
     rcases zad hp with ⟨h_17, hp⟩ | ⟨h_17, hp⟩
     ·try simp at h_17
      cases hp
      try simp [h_1, q_7, q_8, q_9, q_10, h_11, h_17]
      refine zao ?_
      rw [X_5_]
      refine ⟨_, rfl, ?_, ?_⟩ <;> simp [zab, zac, h_1, q_7, q_8, q_9, q_10, h_11, h_17]
     ·try simp at h_17
      cases hp
      try simp [h_1, q_7, q_8, q_9, q_10, h_11, h_17]
      refine zak ?_
      rw [I_4_]
      refine ⟨?_, ?_, ?_, ?_⟩ <;> simp [zab, zac, h_1, q_7, q_8, q_9, q_10, h_11, h_17]
    ·try simp at h_11
     cases hp
     try simp [h_1, q_7, q_8, q_9, q_10, h_11]
     refine zan ?_
     rw [X_5_]
     refine ⟨_, rfl, ?_, ?_⟩ <;> simp [zab, zac, h_1, q_7, q_8, q_9, q_10, h_11]
   ·intro out hX
    rw [X_5_] at hX
    rcases r_18 with r_18 | r_18
    ·simp only [Sum.elim_inl, Sum.elim_inr] at hX hp
     obtain ⟨σ_20, rfl, q_21, q_22⟩ := hX
     cases hp
     simp [Goal, FnEnd, h_1, q_21, q_22]
    ·simp only [Sum.elim_inl, Sum.elim_inr] at hX hp
     obtain ⟨σ_23, rfl, q_24, q_25⟩ := hX
     cases hp
     simp [Goal, FnEnd, h_1, q_24, q_25]
theorem pc43 : PC Tryz.prog 43 C43 := pc_of (g := g43) (zai [] rfl trivial) ⟨Tryz.f43, Tryz.func43, by kernel_rfl, by kernel_rfl⟩ fun x y h => w43 h

noncomputable def C124 : List AV → Option AV := specP (X := TStmt × Int × Unit) fun x => laws_szStmt x.1 x.2.1
theorem C124_eq {a_ left} {y} (h : laws_szStmt a_ left = some y) : C124 [av .shr a_, av .shr left] = some (Res.res y) := zag (X := TStmt × Int × Unit) (F := fun x => laws_szStmt x.1 x.2.1) (x := (a_, left, ())) h
noncomputable def g124 : Cfg := { P := Tryz.prog, take := [], keep := [], gho := [], ctx := [] }
@[simp] theorem g124_s : g124.P = Tryz.prog ∧ g124.take = [] ∧ g124.gho = [] ∧ g124.ro = [] ∧ g124.away = [] ∧ g124.give = [] ∧ g124.octx = [] := by rw [g124]; exact ⟨rfl, rfl, rfl, rfl, rfl, rfl, rfl⟩
theorem w124 {a_ left} {y} (hp : laws_szStmt a_ left = some y) : ∃ m, callo g124 0 124 [av .shr a_, av .shr left] mem0 = some (Res.res y, m) := by
  refine zah (Tryz.f124.body.getD .skip) [.tmp 4] rfl rfl Tryz.func124 (by kernel_rfl) (by kernel_rfl) (by simp [Tryz.ntmps124]) rfl ?_
  unfold laws_szStmt at hp
  simp [Tryz.f124]
  rcases zad hp with ⟨h_1, hp⟩ | ⟨h_1, hp⟩
  ·try simp at h_1
   cases hp
   simp [Goal, FnEnd, h_1]
  ·try simp at h_1
   try simp [h_1]
   rcases zad hp with ⟨h_2, hp⟩ | ⟨h_2, hp⟩
   ·try simp at h_2
    cases hp
    simp [Goal, FnEnd, h_1, h_2]
   ·try simp at h_2
    cases hp
    simp [Goal, FnEnd, h_1, h_2]
theorem pc124 : PC Tryz.prog 124 C124 := pc_of (g := g124) (zai [] rfl trivial) ⟨Tryz.f124, Tryz.func124, by kernel_rfl, by kernel_rfl⟩ fun x y h => w124 h

noncomputable def C75 : List AV → Option AV := specP (X := TEdge × Int × Unit) fun x => laws_szEdge x.1 x.2.1
theorem C75_eq {a_ left} {y} (h : laws_szEdge a_ left = some y) : C75 [av .shr a_, av .shr left] = some (Res.res y) := zag (X := TEdge × Int × Unit) (F := fun x => laws_szEdge x.1 x.2.1) (x := (a_, left, ())) h
noncomputable def g75 : Cfg := { P := Tryz.prog, take := [], keep := [], gho := [], ctx := [(124, C124)] }
@[simp] theorem g75_s : g75.P = Tryz.prog ∧ g75.take = [] ∧ g75.gho = [] ∧ g75.ro = [] ∧ g75.away = [] ∧ g75.give = [] ∧ g75.octx = [] ∧ lookN 124 g75.ctx = some C124 := by rw [g75]; exact ⟨rfl, rfl, rfl, rfl, rfl, rfl, rfl, rfl⟩
theorem w75 {a_ left} {y} (hp : laws_szEdge a_ left = some y) : ∃ m, callo g75 0 75 [av .shr a_, av .shr left] mem0 = some (Res.res y, m) := by
  refine zah (Tryz.f75.body.getD .skip) [.tmp 4] rfl rfl Tryz.func75 (by kernel_rfl) (by kernel_rfl) (by simp [Tryz.ntmps75]) rfl ?_
  unfold laws_szEdge at hp
  obtain ⟨y_1, h_2, hp⟩ := zaa hp
  have c_3 := C124_eq h_2
  simp at c_3
  simp [Tryz.f75, c_3]
  rcases zad hp with ⟨h_4, hp⟩ | ⟨h_4, hp⟩
  ·try simp at h_4
   cases hp
   simp [Goal, FnEnd, h_4]
  ·try simp at h_4
   cases hp
   simp [Goal, FnEnd, h_4]
theorem pc75 : PC Tryz.prog 75 C75 := pc_of (g := g75) (zai [(124, C124)] rfl ⟨pc124, trivial⟩) ⟨Tryz.f75, Tryz.func75, by kernel_rfl, by kernel_rfl⟩ fun x y h => w75 h

noncomputable def C44 : List AV → Option AV := specP (X := (List TEdge) × Int × Unit) fun x => laws_szEdgeS x.1 x.2.1
theorem C44_eq {a_ left} {y} (h : laws_szEdgeS a_ left = some y) : C44 [av .shr a_, av .shr left] = some (Res.res y) := zag (X := (List TEdge) × Int × Unit) (F := fun x => laws_szEdgeS x.1 x.2.1) (x := (a_, left, ())) h
noncomputable def g44 : Cfg := { P := Tryz.prog, take := [], keep := [((44, 5), { hd := [0, 1, 5], bx := [], ex := [1], rt := [4] })], gho := [], ctx := [(75, C75)] }
@[simp] theorem g44_s : g44.P = Tryz.prog ∧ g44.take = [] ∧ g44.gho = [] ∧ g44.ro = [] ∧ g44.away = [] ∧ g44.give = [] ∧ g44.octx = [] ∧ lookN 75 g44.ctx = some C75 := by rw [g44]; exact ⟨rfl, rfl, rfl, rfl, rfl, rfl, rfl, rfl⟩
theorem w44 {a_ left} {y} (hp : laws_szEdgeS a_ left = some y) : ∃ m, callo g44 0 44 [av .shr a_, av .shr left] mem0 = some (Res.res y, m) := by
  refine zah (Tryz.f44.body.getD .skip) [.tmp 4] rfl rfl Tryz.func44 (by kernel_rfl) (by kernel_rfl) (by simp [Tryz.ntmps44]) rfl ?_
  unfold laws_szEdgeS at hp
  simp [Tryz.f44]
  rcases zad hp with ⟨h_1, hp⟩ | ⟨h_1, hp⟩
  ·try simp at h_1
   cases hp
   simp [Goal, FnEnd, h_1]
  ·try simp at h_1
   try simp [h_1]
   obtain ⟨r_21, h_22, hp⟩ := zaa hp
   obtain ⟨I_4, I_4_⟩ : ∃ I : Int × Int → St → Prop, I = (fun (s_2 : Int × Int) (σ : St) => σ.env 0 = .one (.l .shr a_.length (encL a_)) ∧ σ.env 1 = .one (.s (.int .i64 s_2.1)) ∧ σ.env 5 = .one (.s (.int .i64 s_2.2)) ∧ σ.mem = mem0) := ⟨_, rfl⟩
   obtain ⟨X_5, X_5_⟩ : ∃ X : ((Int) ⊕ (Int)) → Out → Prop, X = (fun (r_21 : (Int) ⊕ (Int)) (out : Out) => Sum.elim (fun r_21 => ∃ σ : St, out = .ret σ ∧ σ.env 4 = .one (.s (.int .i64 r_21)) ∧ σ.mem = mem0) (fun r_21 => ∃ σ : St, out = .exit 0 σ ∧ σ.env 1 = .one (.s (.int .i64 r_21)) ∧ σ.mem = mem0) r_21) := ⟨_, rfl⟩
   refine loopP ({ hd := [0, 1, 5], bx := [], ex := [1], rt := [4] }) I_4 X_5 h_22 (by exact rfl) ?_ ?_ ?_
   ·rw [I_4_]
    refine ⟨?_, ?_, ?_, ?_⟩ <;> simp [zab, zac, h_1]
   ·intro s_2 σ_6 a_3 hI hp
    rw [I_4_] at hI
    obtain ⟨q_7, q_8, q_9, q_10⟩ := hI
    try simp [h_1, q_7, q_8, q_9, q_10]
    rcases zad hp with ⟨h_11, hp⟩ | ⟨h_11, hp⟩
    ·try simp at h_11
     obtain ⟨e_12, h_13, hp⟩ := zaa hp
     have b_14 := at_lo h_13
     have b_15 := at_hi h_13
     try simp at b_14 b_15
     have c_16 := seg_at' h_13 0 5 (by decide) (ds := [.sc (.int .i64 e_12.from_), .sc (.int .i64 e_12.to_), .sc (.int .i64 e_12.stmt.kind), .sc (.string e_12.stmt.a), .sc (.string e_12.stmt.b)]) rfl
     try simp at c_16
     obtain ⟨y_17, h_18, hp⟩ := zaa hp
     have c_19 := C75_eq h_18
     simp at c_19
     try simp [h_1, q_7, q_8, q_9, q_10, h_11, b_14, b_15, c_16, c_19]
     rcases zad hp with ⟨h_20, hp⟩ | ⟨h_20, hp⟩
     ·try simp at h_20
      cases hp
      try simp [h_1, q_7, q_8, q_9, q_10, h_11, h_20]
      refine zao ?_
      rw [X_5_]
      refine ⟨_, rfl, ?_, ?_⟩ <;> simp [zab, zac, h_1, q_7, q_8, q_9, q_10, h_11, h_20]
     ·try simp at h_20
      cases hp
      try simp [h_1, q_7, q_8, q_9, q_10, h_11, h_20]
      refine zak ?_
      rw [I_4_]
      refine ⟨?_, ?_, ?_, ?_⟩ <;> simp [zab, zac, h_1, q_7, q_8, q_9, q_10, h_11, h_20]
    ·try simp at h_11
     cases hp
     try simp [h_1, q_7, q_8, q_9, q_10, h_11]
     refine zan ?_
     rw [X_5_]
     refine ⟨_, rfl, ?_, ?_⟩ <;> simp [zab, zac, h_1, q_7, q_8, q_9, q_10, h_11]
   ·intro out hX
    rw [X_5_] at hX
    rcases r_21 with r_21 | r_21
    ·simp only [Sum.elim_inl, Sum.elim_inr] at hX hp
     obtain ⟨σ_23, rfl, q_24, q_25⟩ := hX
     cases hp
     simp [Goal, FnEnd, h_1, q_24, q_25]
    ·simp only [Sum.elim_inl, Sum.elim_inr] at hX hp
     obtain ⟨σ_26, rfl, q_27, q_28⟩ := hX
     cases hp
     simp [Goal, FnEnd, h_1, q_27, q_28]
theorem pc44 : PC Tryz.prog 44 C44 := pc_of (g := g44) (zai [(75, C75)] rfl ⟨pc75, trivial⟩) ⟨Tryz.f44, Tryz.func44, by kernel_rfl, by kernel_rfl⟩ fun x y h => w44 h

noncomputable def C8 : List AV → Option AV := specP (X := TProgram × Int × Unit) fun x => laws_szProgram x.1 x.2.1
theorem C8_eq {a_ left} {y} (h : laws_szProgram a_ left = some y) : C8 [av .shr a_, av .shr left] = some (Res.res y) := zag (X := TProgram × Int × Unit) (F := fun x => laws_szProgram x.1 x.2.1) (x := (a_, left, ())) h
noncomputable def g8 : Cfg := { P := Tryz.prog, take := [], keep := [], gho := [], ctx := [(43, C43), (44, C44)] }
@[simp] theorem g8_s : g8.P = Tryz.prog ∧ g8.take = [] ∧ g8.gho = [] ∧ g8.ro = [] ∧ g8.away = [] ∧ g8.give = [] ∧ g8.octx = [] ∧ lookN 43 g8.ctx = some C43 ∧ lookN 44 g8.ctx = some C44 := by rw [g8]; exact ⟨rfl, rfl, rfl, rfl, rfl, rfl, rfl, rfl, rfl⟩
theorem w8 {a_ left} {y} (hp : laws_szProgram a_ left = some y) : ∃ m, callo g8 0 8 [av .shr a_, av .shr left] mem0 = some (Res.res y, m) := by
  refine zah (Tryz.f8.body.getD .skip) [.tmp 4] rfl rfl Tryz.func8 (by kernel_rfl) (by kernel_rfl) (by simp [Tryz.ntmps8]) rfl ?_
  unfold laws_szProgram at hp
  obtain ⟨y_1, h_2, hp⟩ := zaa hp
  have c_3 := C43_eq h_2
  simp at c_3
  simp [Tryz.f8, c_3]
  rcases zad hp with ⟨h_4, hp⟩ | ⟨h_4, hp⟩
  ·try simp at h_4
   cases hp
   simp [Goal, FnEnd, h_4]
  ·try simp at h_4
   obtain ⟨y_5, h_6, hp⟩ := zaa hp
   have c_7 := C44_eq h_6
   simp at c_7
   try simp [h_4, c_7]
   rcases zad hp with ⟨h_8, hp⟩ | ⟨h_8, hp⟩
   ·try simp at h_8
    cases hp
    simp [Goal, FnEnd, h_4, h_8]
   ·try simp at h_8
    cases hp
    simp [Goal, FnEnd, h_4, h_8]
theorem pc8 : PC Tryz.prog 8 C8 := pc_of (g := g8) (zai [(43, C43), (44, C44)] rfl ⟨pc43, pc44, trivial⟩) ⟨Tryz.f8, Tryz.func8, by kernel_rfl, by kernel_rfl⟩ fun x y h => w8 h

noncomputable def C45 : List AV → Option AV := specP (X := (List Int) × Int × Unit) fun x => laws_szIntS x.1 x.2.1
theorem C45_eq {a_ left} {y} (h : laws_szIntS a_ left = some y) : C45 [av .shr a_, av .shr left] = some (Res.res y) := zag (X := (List Int) × Int × Unit) (F := fun x => laws_szIntS x.1 x.2.1) (x := (a_, left, ())) h
noncomputable def g45 : Cfg := { P := Tryz.prog, take := [], keep := [], gho := [], ctx := [] }
@[simp] theorem g45_s : g45.P = Tryz.prog ∧ g45.take = [] ∧ g45.gho = [] ∧ g45.ro = [] ∧ g45.away = [] ∧ g45.give = [] ∧ g45.octx = [] := by rw [g45]; exact ⟨rfl, rfl, rfl, rfl, rfl, rfl, rfl⟩
theorem w45 {a_ left} {y} (hp : laws_szIntS a_ left = some y) : ∃ m, callo g45 0 45 [av .shr a_, av .shr left] mem0 = some (Res.res y, m) := by
  refine zah (Tryz.f45.body.getD .skip) [.tmp 4] rfl rfl Tryz.func45 (by kernel_rfl) (by kernel_rfl) (by simp [Tryz.ntmps45]) rfl ?_
  unfold laws_szIntS at hp
  simp [Tryz.f45]
  rcases zad hp with ⟨h_1, hp⟩ | ⟨h_1, hp⟩
  ·try simp at h_1
   cases hp
   simp [Goal, FnEnd, h_1]
  ·try simp at h_1
   cases hp
   simp [Goal, FnEnd, h_1]
theorem pc45 : PC Tryz.prog 45 C45 := pc_of (g := g45) (zai [] rfl trivial) ⟨Tryz.f45, Tryz.func45, by kernel_rfl, by kernel_rfl⟩ fun x y h => w45 h

noncomputable def C9 : List AV → Option AV := specP (X := THeap × Int × Unit) fun x => laws_szHeap x.1 x.2.1
theorem C9_eq {a_ left} {y} (h : laws_szHeap a_ left = some y) : C9 [av .shr a_, av .shr left] = some (Res.res y) := zag (X := THeap × Int × Unit) (F := fun x => laws_szHeap x.1 x.2.1) (x := (a_, left, ())) h
noncomputable def g9 : Cfg := { P := Tryz.prog, take := [], keep := [], gho := [], ctx := [(45, C45)] }
@[simp] theorem g9_s : g9.P = Tryz.prog ∧ g9.take = [] ∧ g9.gho = [] ∧ g9.ro = [] ∧ g9.away = [] ∧ g9.give = [] ∧ g9.octx = [] ∧ lookN 45 g9.ctx = some C45 := by rw [g9]; exact ⟨rfl, rfl, rfl, rfl, rfl, rfl, rfl, rfl⟩
theorem w9 {a_ left} {y} (hp : laws_szHeap a_ left = some y) : ∃ m, callo g9 0 9 [av .shr a_, av .shr left] mem0 = some (Res.res y, m) := by
  refine zah (Tryz.f9.body.getD .skip) [.tmp 4] rfl rfl Tryz.func9 (by kernel_rfl) (by kernel_rfl) (by simp [Tryz.ntmps9]) rfl ?_
  unfold laws_szHeap at hp
  obtain ⟨y_1, h_2, hp⟩ := zaa hp
  have c_3 := C45_eq h_2
  simp at c_3
  simp [Tryz.f9, c_3]
  rcases zad hp with ⟨h_4, hp⟩ | ⟨h_4, hp⟩
  ·try simp at h_4
   cases hp
   simp [Goal, FnEnd, h_4]
  ·try simp at h_4
   obtain ⟨y_5, h_6, hp⟩ := zaa hp
   have c_7 := C45_eq h_6
   simp at c_7
   try simp [h_4, c_7]
   rcases zad hp with ⟨h_8, hp⟩ | ⟨h_8, hp⟩
   ·try simp at h_8
    cases hp
    simp [Goal, FnEnd, h_4, h_8]
   ·try simp at h_8
    cases hp
    simp [Goal, FnEnd, h_4, h_8]
theorem pc9 : PC Tryz.prog 9 C9 := pc_of (g := g9) (zai [(45, C45)] rfl ⟨pc45, trivial⟩) ⟨Tryz.f9, Tryz.func9, by kernel_rfl, by kernel_rfl⟩ fun x y h => w9 h

noncomputable def C51 : List AV → Option AV := specP (X := (List ByteArray) × Unit) fun x => laws_toStringS x.1
theorem C51_eq {a_} {y} (h : laws_toStringS a_ = some y) : C51 [av .shr a_] = some (Res.res y) := zag (X := (List ByteArray) × Unit) (F := fun x => laws_toStringS x.1) (x := (a_, ())) h
noncomputable def g51 : Cfg := { P := Tryz.prog, take := [(51, 7)], keep := [((51, 3), { hd := [0, 3, 4], bx := [], ex := [3], rt := [2] })], gho := [((51, atEnd), [.frz (.sl 2 0)])], ctx := [] }
@[simp] theorem g51_s : g51.P = Tryz.prog ∧ g51.take = [(51, 7)] ∧ g51.gho = [((51, atEnd), [.frz (.sl 2 0)])] ∧ g51.ro = [] ∧ g51.away = [] ∧ g51.give = [] ∧ g51.octx = [] := by rw [g51]; exact ⟨rfl, rfl, rfl, rfl, rfl, rfl, rfl⟩
theorem w51 {a_} {y} (hp : laws_toStringS a_ = some y) : ∃ m, callo g51 0 51 [av .shr a_] mem0 = some (Res.res y, m) := by
  refine zah (Tryz.f51.body.getD .skip) [.tmp 2] rfl rfl Tryz.func51 (by kernel_rfl) (by kernel_rfl) (by simp [Tryz.ntmps51]) rfl ?_
  unfold laws_toStringS at hp
  obtain ⟨_, h_1, hp⟩ := zaa hp
  have b_2 := roomI_lo h_1
  have b_3 := roomI_ok h_1
  try simp at b_2 b_3
  have r_4 := row_replicate (a_.length : Int).toNat (ByteArray.empty : ByteArray) (by rfl)
  try simp at r_4
  simp [Tryz.f51, b_2, b_3, r_4]
  obtain ⟨r_27, h_28, hp⟩ := zaa hp
  obtain ⟨I_7, I_7_⟩ : ∃ I : Int × (List ByteArray) → St → Prop, I = (fun (s_5 : Int × (List ByteArray)) (σ : St) => σ.env 0 = .one (.l .shr a_.length (encL a_)) ∧ σ.env 3 = .one (.bs (1, 7) s_5.2.length 1) ∧ σ.env 4 = .one (.s (.int .i64 s_5.1)) ∧ σ.mem (1, 7) = some (rowC s_5.2) ∧ NoBox [(1, 7)] σ.mem) := ⟨_, rfl⟩
  obtain ⟨X_8, X_8_⟩ : ∃ X : (List ByteArray) → Out → Prop, X = (fun (r_27 : (List ByteArray)) (out : Out) => ∃ σ : St, out = .exit 0 σ ∧ σ.env 3 = .one (.bs (1, 7) r_27.length 1) ∧ σ.mem (1, 7) = some (rowC r_27) ∧ NoBox [(1, 7)] σ.mem) := ⟨_, rfl⟩
  refine loopP ({ hd := [0, 3, 4], bx := [], ex := [3], rt := [2] }) I_7 X_8 h_28 (by exact rfl) ?_ ?_ ?_
  ·rw [I_7_]
   refine ⟨?_, ?_, ?_, ?_, NoBox.restrict (by intro k hk hb; simp at hk hb; simp [hk, hb])⟩ <;> simp [zab, zac]
  ·intro s_5 σ_9 a_6 hI hp
   rw [I_7_] at hI
   obtain ⟨q_10, q_11, q_12, q_13, hn_14⟩ := hI
   try simp [q_10, q_11, q_12, q_13]
   rcases zad hp with ⟨h_15, hp⟩ | ⟨h_15, hp⟩
   ·try simp at h_15
    obtain ⟨e_16, h_17, hp⟩ := zaa hp
    have b_18 := at_lo h_17
    have b_19 := at_hi h_17
    try simp at b_18 b_19
    have c_20 := seg_at' h_17 0 1 (by decide) (ds := [.sc (.string e_16)]) rfl
    try simp at c_20
    obtain ⟨e_21, h_22, hp⟩ := zaa hp
    have b_23 := at_lo h_22
    have b_24 := at_hi h_22
    try simp at b_23 b_24
    have c_25 := splice_row h_22 0 e_16 [(.s (.string e_16))] (by simp) rfl
    try simp at c_25
    have l_26 := row_room h_22 0 (m := 1) (by decide)
    try simp at l_26
    cases hp
    try simp [q_10, q_11, q_12, q_13, h_15, b_18, b_19, c_20, b_23, b_24, c_25, l_26]
    refine zak ?_
    rw [I_7_]
    refine ⟨?_, ?_, ?_, ?_, NoBox.restrict (by intro k hk hb; simp at hk hb; simp [hk, hb, q_10, q_11, q_12, q_13, h_15, b_18, b_19, c_20, b_23, b_24, c_25, l_26, hn_14 k (by simp [hk, hb])])⟩ <;> simp [zab, zac, q_10, q_11, q_12, q_13, h_15, b_18, b_19, c_20, b_23, b_24, c_25, l_26]
   ·try simp at h_15
    cases hp
    try simp [q_10, q_11, q_12, q_13, h_15]
    refine zan ?_
    rw [X_8_]
    refine ⟨_, rfl, ?_, ?_, NoBox.restrict (by intro k hk hb; simp at hk hb; simp [hk, hb, q_10, q_11, q_12, q_13, h_15, hn_14 k (by simp [hk, hb])])⟩ <;> simp [zab, zac, q_10, q_11, q_12, q_13, h_15]
  ·intro out hX
   rw [X_8_] at hX
   obtain ⟨σ_29, rfl, q_30, q_31, hn_32⟩ := hX
   cases hp
   simp [Goal, FnEnd, q_30, q_31]
theorem pc51 : PC Tryz.prog 51 C51 := pc_of (g := g51) (zai [] rfl trivial) ⟨Tryz.f51, Tryz.func51, by kernel_rfl, by kernel_rfl⟩ fun x y h => w51 h

noncomputable def C131 : List AV → Option AV := specP (X := TStmt × Unit) fun x => laws_toStmt x.1
theorem C131_eq {a_} {y} (h : laws_toStmt a_ = some y) : C131 [av .shr a_] = some (Res.res y) := zag (X := TStmt × Unit) (F := fun x => laws_toStmt x.1) (x := (a_, ())) h
noncomputable def g131 : Cfg := { P := Tryz.prog, take := [], keep := [], gho := [], ctx := [] }
@[simp] theorem g131_s : g131.P = Tryz.prog ∧ g131.take = [] ∧ g131.gho = [] ∧ g131.ro = [] ∧ g131.away = [] ∧ g131.give = [] ∧ g131.octx = [] := by rw [g131]; exact ⟨rfl, rfl, rfl, rfl, rfl, rfl, rfl⟩
theorem w131 {a_} {y} (hp : laws_toStmt a_ = some y) : ∃ m, callo g131 0 131 [av .shr a_] mem0 = some (Res.res y, m) := by
  refine zah (Tryz.f131.body.getD .skip) [.cell 2 83] rfl rfl Tryz.func131 (by kernel_rfl) (by kernel_rfl) (by simp [Tryz.ntmps131]) rfl ?_
  unfold laws_toStmt at hp
  cases hp
  simp [Tryz.f131, Goal, FnEnd, retR, rsrc, RSrc.val, nodupR, nodup, tupPart]
theorem pc131 : PC Tryz.prog 131 C131 := pc_of (g := g131) (zai [] rfl trivial) ⟨Tryz.f131, Tryz.func131, by kernel_rfl, by kernel_rfl⟩ fun x y h => w131 h

noncomputable def C89 : List AV → Option AV := specP (X := TEdge × Unit) fun x => laws_toEdge x.1
theorem C89_eq {a_} {y} (h : laws_toEdge a_ = some y) : C89 [av .shr a_] = some (Res.res y) := zag (X := TEdge × Unit) (F := fun x => laws_toEdge x.1) (x := (a_, ())) h
noncomputable def g89 : Cfg := { P := Tryz.prog, take := [], keep := [], gho := [], ctx := [(131, C131)] }
@[simp] theorem g89_s : g89.P = Tryz.prog ∧ g89.take = [] ∧ g89.gho = [] ∧ g89.ro = [] ∧ g89.away = [] ∧ g89.give = [] ∧ g89.octx = [] ∧ lookN 131 g89.ctx = some C131 := by rw [g89]; exact ⟨rfl, rfl, rfl, rfl, rfl, rfl, rfl, rfl⟩
theorem w89 {a_} {y} (hp : laws_toEdge a_ = some y) : ∃ m, callo g89 0 89 [av .shr a_] mem0 = some (Res.res y, m) := by
  refine zah (Tryz.f89.body.getD .skip) [.cell 2 85] rfl rfl Tryz.func89 (by kernel_rfl) (by kernel_rfl) (by simp [Tryz.ntmps89]) rfl ?_
  unfold laws_toEdge at hp
  obtain ⟨y_1, h_2, hp⟩ := zaa hp
  have c_3 := C131_eq h_2
  simp at c_3
  cases hp
  simp [Tryz.f89, Goal, FnEnd, retR, rsrc, RSrc.val, nodupR, nodup, tupPart, c_3]
theorem pc89 : PC Tryz.prog 89 C89 := pc_of (g := g89) (zai [(131, C131)] rfl ⟨pc131, trivial⟩) ⟨Tryz.f89, Tryz.func89, by kernel_rfl, by kernel_rfl⟩ fun x y h => w89 h

noncomputable def C52 : List AV → Option AV := specP (X := (List TEdge) × Unit) fun x => laws_toEdgeS x.1
theorem C52_eq {a_} {y} (h : laws_toEdgeS a_ = some y) : C52 [av .shr a_] = some (Res.res y) := zag (X := (List TEdge) × Unit) (F := fun x => laws_toEdgeS x.1) (x := (a_, ())) h
noncomputable def g52 : Cfg := { P := Tryz.prog, take := [(52, 7)], keep := [((52, 3), { hd := [0, 3, 4], bx := [], ex := [3], rt := [2] })], gho := [((52, atEnd), [.frz (.sl 2 0)])], ctx := [(89, C89)] }
@[simp] theorem g52_s : g52.P = Tryz.prog ∧ g52.take = [(52, 7)] ∧ g52.gho = [((52, atEnd), [.frz (.sl 2 0)])] ∧ g52.ro = [] ∧ g52.away = [] ∧ g52.give = [] ∧ g52.octx = [] ∧ lookN 89 g52.ctx = some C89 := by rw [g52]; exact ⟨rfl, rfl, rfl, rfl, rfl, rfl, rfl, rfl⟩
theorem w52 {a_} {y} (hp : laws_toEdgeS a_ = some y) : ∃ m, callo g52 0 52 [av .shr a_] mem0 = some (Res.res y, m) := by
  refine zah (Tryz.f52.body.getD .skip) [.tmp 2] rfl rfl Tryz.func52 (by kernel_rfl) (by kernel_rfl) (by simp [Tryz.ntmps52]) rfl ?_
  unfold laws_toEdgeS at hp
  obtain ⟨_, h_1, hp⟩ := zaa hp
  have b_2 := roomI_lo h_1
  have b_3 := roomI_ok h_1
  try simp at b_2 b_3
  have r_4 := row_replicate (a_.length : Int).toNat ((⟨0, 0, (⟨0, ByteArray.empty, ByteArray.empty⟩ : TStmt)⟩ : TEdge) : TEdge) (by rfl)
  try simp at r_4
  simp [Tryz.f52, b_2, b_3, r_4]
  obtain ⟨r_30, h_31, hp⟩ := zaa hp
  obtain ⟨I_7, I_7_⟩ : ∃ I : Int × (List TEdge) → St → Prop, I = (fun (s_5 : Int × (List TEdge)) (σ : St) => σ.env 0 = .one (.l .shr a_.length (encL a_)) ∧ σ.env 3 = .one (.bs (1, 7) s_5.2.length 5) ∧ σ.env 4 = .one (.s (.int .i64 s_5.1)) ∧ σ.mem (1, 7) = some (rowC s_5.2) ∧ NoBox [(1, 7)] σ.mem) := ⟨_, rfl⟩
  obtain ⟨X_8, X_8_⟩ : ∃ X : (List TEdge) → Out → Prop, X = (fun (r_30 : (List TEdge)) (out : Out) => ∃ σ : St, out = .exit 0 σ ∧ σ.env 3 = .one (.bs (1, 7) r_30.length 5) ∧ σ.mem (1, 7) = some (rowC r_30) ∧ NoBox [(1, 7)] σ.mem) := ⟨_, rfl⟩
  refine loopP ({ hd := [0, 3, 4], bx := [], ex := [3], rt := [2] }) I_7 X_8 h_31 (by exact rfl) ?_ ?_ ?_
  ·rw [I_7_]
   refine ⟨?_, ?_, ?_, ?_, NoBox.restrict (by intro k hk hb; simp at hk hb; simp [hk, hb])⟩ <;> simp [zab, zac]
  ·intro s_5 σ_9 a_6 hI hp
   rw [I_7_] at hI
   obtain ⟨q_10, q_11, q_12, q_13, hn_14⟩ := hI
   try simp [q_10, q_11, q_12, q_13]
   rcases zad hp with ⟨h_15, hp⟩ | ⟨h_15, hp⟩
   ·try simp at h_15
    obtain ⟨e_16, h_17, hp⟩ := zaa hp
    have b_18 := at_lo h_17
    have b_19 := at_hi h_17
    try simp at b_18 b_19
    have c_20 := seg_at' h_17 0 5 (by decide) (ds := [.sc (.int .i64 e_16.from_), .sc (.int .i64 e_16.to_), .sc (.int .i64 e_16.stmt.kind), .sc (.string e_16.stmt.a), .sc (.string e_16.stmt.b)]) rfl
    try simp at c_20
    obtain ⟨y_21, h_22, hp⟩ := zaa hp
    have c_23 := C89_eq h_22
    simp at c_23
    obtain ⟨e_24, h_25, hp⟩ := zaa hp
    have b_26 := at_lo h_25
    have b_27 := at_hi h_25
    try simp at b_26 b_27
    have c_28 := splice_row h_25 0 y_21 [(.s (.int .i64 y_21.from_)), (.s (.int .i64 y_21.to_)), (.s (.int .i64 y_21.stmt.kind)), (.s (.string y_21.stmt.a)), (.s (.string y_21.stmt.b))] (by simp) rfl
    try simp at c_28
    have l_29 := row_room h_25 0 (m := 5) (by decide)
    try simp at l_29
    cases hp
    try simp [q_10, q_11, q_12, q_13, h_15, b_18, b_19, c_20, c_23, b_26, b_27, c_28, l_29]
    refine zak ?_
    rw [I_7_]
    refine ⟨?_, ?_, ?_, ?_, NoBox.restrict (by intro k hk hb; simp at hk hb; simp [hk, hb, q_10, q_11, q_12, q_13, h_15, b_18, b_19, c_20, c_23, b_26, b_27, c_28, l_29, hn_14 k (by simp [hk, hb])])⟩ <;> simp [zab, zac, q_10, q_11, q_12, q_13, h_15, b_18, b_19, c_20, c_23, b_26, b_27, c_28, l_29]
   ·try simp at h_15
    cases hp
    try simp [q_10, q_11, q_12, q_13, h_15]
    refine zan ?_
    rw [X_8_]
    refine ⟨_, rfl, ?_, ?_, NoBox.restrict (by intro k hk hb; simp at hk hb; simp [hk, hb, q_10, q_11, q_12, q_13, h_15, hn_14 k (by simp [hk, hb])])⟩ <;> simp [zab, zac, q_10, q_11, q_12, q_13, h_15]
  ·intro out hX
   rw [X_8_] at hX
   obtain ⟨σ_32, rfl, q_33, q_34, hn_35⟩ := hX
   cases hp
   simp [Goal, FnEnd, q_33, q_34]
theorem pc52 : PC Tryz.prog 52 C52 := pc_of (g := g52) (zai [(89, C89)] rfl ⟨pc89, trivial⟩) ⟨Tryz.f52, Tryz.func52, by kernel_rfl, by kernel_rfl⟩ fun x y h => w52 h

noncomputable def C11 : List AV → Option AV := specP (X := TProgram × Unit) fun x => laws_toProgram x.1
theorem C11_eq {a_} {y} (h : laws_toProgram a_ = some y) : C11 [av .shr a_] = some (Res.res y) := zag (X := TProgram × Unit) (F := fun x => laws_toProgram x.1) (x := (a_, ())) h
noncomputable def g11 : Cfg := { P := Tryz.prog, take := [(11, 15)], keep := [], gho := [], ctx := [(51, C51), (52, C52)] }
@[simp] theorem g11_s : g11.P = Tryz.prog ∧ g11.take = [(11, 15)] ∧ g11.gho = [] ∧ g11.ro = [] ∧ g11.away = [] ∧ g11.give = [] ∧ g11.octx = [] ∧ lookN 51 g11.ctx = some C51 ∧ lookN 52 g11.ctx = some C52 := by rw [g11]; exact ⟨rfl, rfl, rfl, rfl, rfl, rfl, rfl, rfl, rfl⟩
theorem w11 {a_} {y} (hp : laws_toProgram a_ = some y) : ∃ m, callo g11 0 11 [av .shr a_] mem0 = some (Res.res y, m) := by
  refine zah (Tryz.f11.body.getD .skip) [.cell 2 38] rfl rfl Tryz.func11 (by kernel_rfl) (by kernel_rfl) (by simp [Tryz.ntmps11]) rfl ?_
  unfold laws_toProgram at hp
  obtain ⟨y_1, h_2, hp⟩ := zaa hp
  have c_3 := C51_eq h_2
  simp at c_3
  obtain ⟨y_4, h_5, hp⟩ := zaa hp
  have c_6 := C52_eq h_5
  simp at c_6
  cases hp
  simp [Tryz.f11, Goal, FnEnd, retR, rsrc, RSrc.val, nodupR, nodup, tupPart, c_3, c_6]
theorem pc11 : PC Tryz.prog 11 C11 := pc_of (g := g11) (zai [(51, C51), (52, C52)] rfl ⟨pc51, pc52, trivial⟩) ⟨Tryz.f11, Tryz.func11, by kernel_rfl, by kernel_rfl⟩ fun x y h => w11 h

noncomputable def C13 : List AV → Option AV := specP (X := (List Int) × Unit) fun x => laws_toIntS x.1
theorem C13_eq {a_} {y} (h : laws_toIntS a_ = some y) : C13 [av .shr a_] = some (Res.res y) := zag (X := (List Int) × Unit) (F := fun x => laws_toIntS x.1) (x := (a_, ())) h
noncomputable def g13 : Cfg := { P := Tryz.prog, take := [(13, 7)], keep := [((13, 3), { hd := [0, 3, 4], bx := [], ex := [3], rt := [2] })], gho := [((13, atEnd), [.frz (.sl 2 0)])], ctx := [] }
@[simp] theorem g13_s : g13.P = Tryz.prog ∧ g13.take = [(13, 7)] ∧ g13.gho = [((13, atEnd), [.frz (.sl 2 0)])] ∧ g13.ro = [] ∧ g13.away = [] ∧ g13.give = [] ∧ g13.octx = [] := by rw [g13]; exact ⟨rfl, rfl, rfl, rfl, rfl, rfl, rfl⟩
theorem w13 {a_} {y} (hp : laws_toIntS a_ = some y) : ∃ m, callo g13 0 13 [av .shr a_] mem0 = some (Res.res y, m) := by
  refine zah (Tryz.f13.body.getD .skip) [.tmp 2] rfl rfl Tryz.func13 (by kernel_rfl) (by kernel_rfl) (by simp [Tryz.ntmps13]) rfl ?_
  unfold laws_toIntS at hp
  obtain ⟨_, h_1, hp⟩ := zaa hp
  have b_2 := roomI_lo h_1
  have b_3 := roomI_ok h_1
  try simp at b_2 b_3
  have r_4 := row_replicate (a_.length : Int).toNat (0 : Int) (by rfl)
  try simp at r_4
  simp [Tryz.f13, b_2, b_3, r_4]
  obtain ⟨r_27, h_28, hp⟩ := zaa hp
  obtain ⟨I_7, I_7_⟩ : ∃ I : Int × (List Int) → St → Prop, I = (fun (s_5 : Int × (List Int)) (σ : St) => σ.env 0 = .one (.l .shr a_.length (encL a_)) ∧ σ.env 3 = .one (.bs (1, 7) s_5.2.length 1) ∧ σ.env 4 = .one (.s (.int .i64 s_5.1)) ∧ σ.mem (1, 7) = some (rowC s_5.2) ∧ NoBox [(1, 7)] σ.mem) := ⟨_, rfl⟩
  obtain ⟨X_8, X_8_⟩ : ∃ X : (List Int) → Out → Prop, X = (fun (r_27 : (List Int)) (out : Out) => ∃ σ : St, out = .exit 0 σ ∧ σ.env 3 = .one (.bs (1, 7) r_27.length 1) ∧ σ.mem (1, 7) = some (rowC r_27) ∧ NoBox [(1, 7)] σ.mem) := ⟨_, rfl⟩
  refine loopP ({ hd := [0, 3, 4], bx := [], ex := [3], rt := [2] }) I_7 X_8 h_28 (by exact rfl) ?_ ?_ ?_
  ·rw [I_7_]
   refine ⟨?_, ?_, ?_, ?_, NoBox.restrict (by intro k hk hb; simp at hk hb; simp [hk, hb])⟩ <;> simp [zab, zac]
  ·intro s_5 σ_9 a_6 hI hp
   rw [I_7_] at hI
   obtain ⟨q_10, q_11, q_12, q_13, hn_14⟩ := hI
   try simp [q_10, q_11, q_12, q_13]
   rcases zad hp with ⟨h_15, hp⟩ | ⟨h_15, hp⟩
   ·try simp at h_15
    obtain ⟨e_16, h_17, hp⟩ := zaa hp
    have b_18 := at_lo h_17
    have b_19 := at_hi h_17
    try simp at b_18 b_19
    have c_20 := seg_at' h_17 0 1 (by decide) (ds := [.sc (.int .i64 e_16)]) rfl
    try simp at c_20
    obtain ⟨e_21, h_22, hp⟩ := zaa hp
    have b_23 := at_lo h_22
    have b_24 := at_hi h_22
    try simp at b_23 b_24
    have c_25 := splice_row h_22 0 e_16 [(.s (.int .i64 e_16))] (by simp) rfl
    try simp at c_25
    have l_26 := row_room h_22 0 (m := 1) (by decide)
    try simp at l_26
    cases hp
    try simp [q_10, q_11, q_12, q_13, h_15, b_18, b_19, c_20, b_23, b_24, c_25, l_26]
    refine zak ?_
    rw [I_7_]
    refine ⟨?_, ?_, ?_, ?_, NoBox.restrict (by intro k hk hb; simp at hk hb; simp [hk, hb, q_10, q_11, q_12, q_13, h_15, b_18, b_19, c_20, b_23, b_24, c_25, l_26, hn_14 k (by simp [hk, hb])])⟩ <;> simp [zab, zac, q_10, q_11, q_12, q_13, h_15, b_18, b_19, c_20, b_23, b_24, c_25, l_26]
   ·try simp at h_15
    cases hp
    try simp [q_10, q_11, q_12, q_13, h_15]
    refine zan ?_
    rw [X_8_]
    refine ⟨_, rfl, ?_, ?_, NoBox.restrict (by intro k hk hb; simp at hk hb; simp [hk, hb, q_10, q_11, q_12, q_13, h_15, hn_14 k (by simp [hk, hb])])⟩ <;> simp [zab, zac, q_10, q_11, q_12, q_13, h_15]
  ·intro out hX
   rw [X_8_] at hX
   obtain ⟨σ_29, rfl, q_30, q_31, hn_32⟩ := hX
   cases hp
   simp [Goal, FnEnd, q_30, q_31]
theorem pc13 : PC Tryz.prog 13 C13 := pc_of (g := g13) (zai [] rfl trivial) ⟨Tryz.f13, Tryz.func13, by kernel_rfl, by kernel_rfl⟩ fun x y h => w13 h

noncomputable def C12 : List AV → Option AV := specP (X := THeap × Unit) fun x => laws_toHeap x.1
theorem C12_eq {a_} {y} (h : laws_toHeap a_ = some y) : C12 [av .shr a_] = some (Res.res y) := zag (X := THeap × Unit) (F := fun x => laws_toHeap x.1) (x := (a_, ())) h
noncomputable def g12 : Cfg := { P := Tryz.prog, take := [(12, 12)], keep := [], gho := [], ctx := [(13, C13)] }
@[simp] theorem g12_s : g12.P = Tryz.prog ∧ g12.take = [(12, 12)] ∧ g12.gho = [] ∧ g12.ro = [] ∧ g12.away = [] ∧ g12.give = [] ∧ g12.octx = [] ∧ lookN 13 g12.ctx = some C13 := by rw [g12]; exact ⟨rfl, rfl, rfl, rfl, rfl, rfl, rfl, rfl⟩
theorem w12 {a_} {y} (hp : laws_toHeap a_ = some y) : ∃ m, callo g12 0 12 [av .shr a_] mem0 = some (Res.res y, m) := by
  refine zah (Tryz.f12.body.getD .skip) [.cell 2 31] rfl rfl Tryz.func12 (by kernel_rfl) (by kernel_rfl) (by simp [Tryz.ntmps12]) rfl ?_
  unfold laws_toHeap at hp
  obtain ⟨y_1, h_2, hp⟩ := zaa hp
  have c_3 := C13_eq h_2
  simp at c_3
  obtain ⟨y_4, h_5, hp⟩ := zaa hp
  have c_6 := C13_eq h_5
  simp at c_6
  cases hp
  simp [Tryz.f12, Goal, FnEnd, retR, rsrc, RSrc.val, nodupR, nodup, tupPart, c_3, c_6]
theorem pc12 : PC Tryz.prog 12 C12 := pc_of (g := g12) (zai [(13, C13)] rfl ⟨pc13, trivial⟩) ⟨Tryz.f12, Tryz.func12, by kernel_rfl, by kernel_rfl⟩ fun x y h => w12 h

noncomputable def C49 : List AV → Option AV := specP (X := Int × Int × Int × Unit) fun x => spec_l1In x.1 x.2.1 x.2.2.1
theorem C49_eq {x_ lo hi} {y} (h : spec_l1In x_ lo hi = some y) : C49 [av .shr x_, av .shr lo, av .shr hi] = some (Res.res y) := zag (X := Int × Int × Int × Unit) (F := fun x => spec_l1In x.1 x.2.1 x.2.2.1) (x := (x_, lo, hi, ())) h
noncomputable def g49 : Cfg := { P := Tryz.prog, take := [], keep := [], gho := [], ctx := [] }
@[simp] theorem g49_s : g49.P = Tryz.prog ∧ g49.take = [] ∧ g49.gho = [] ∧ g49.ro = [] ∧ g49.away = [] ∧ g49.give = [] ∧ g49.octx = [] := by rw [g49]; exact ⟨rfl, rfl, rfl, rfl, rfl, rfl, rfl⟩
theorem w49 {x_ lo hi} {y} (hp : spec_l1In x_ lo hi = some y) : ∃ m, callo g49 0 49 [av .shr x_, av .shr lo, av .shr hi] mem0 = some (Res.res y, m) := by
  refine zah (Tryz.f49.body.getD .skip) [.tmp 6] rfl rfl Tryz.func49 (by kernel_rfl) (by kernel_rfl) (by simp [Tryz.ntmps49]) rfl ?_
  unfold spec_l1In at hp
  simp [Tryz.f49]
  rcases zad hp with ⟨h_1, hp⟩ | ⟨h_1, hp⟩
  ·try simp at h_1
   cases hp
   simp [Goal, FnEnd, h_1]
  ·try simp at h_1
   cases hp
   simp [Goal, FnEnd, h_1]
theorem pc49 : PC Tryz.prog 49 C49 := pc_of (g := g49) (zai [] rfl trivial) ⟨Tryz.f49, Tryz.func49, by kernel_rfl, by kernel_rfl⟩ fun x y h => w49 h

noncomputable def C125 : List AV → Option AV := specP (X := Int × Unit) fun x => spec_NamesOf x.1
theorem C125_eq {kind} {y} (h : spec_NamesOf kind = some y) : C125 [av .shr kind] = some (Res.res y) := zag (X := Int × Unit) (F := fun x => spec_NamesOf x.1) (x := (kind, ())) h
noncomputable def g125 : Cfg := { P := Tryz.prog, take := [], keep := [], gho := [], ctx := [] }
@[simp] theorem g125_s : g125.P = Tryz.prog ∧ g125.take = [] ∧ g125.gho = [] ∧ g125.ro = [] ∧ g125.away = [] ∧ g125.give = [] ∧ g125.octx = [] := by rw [g125]; exact ⟨rfl, rfl, rfl, rfl, rfl, rfl, rfl⟩
theorem w125 {kind} {y} (hp : spec_NamesOf kind = some y) : ∃ m, callo g125 0 125 [av .shr kind] mem0 = some (Res.res y, m) := by
  refine zah (Tryz.f125.body.getD .skip) [.tmp 2] rfl rfl Tryz.func125 (by kernel_rfl) (by kernel_rfl) (by simp [Tryz.ntmps125]) rfl ?_
  unfold spec_NamesOf at hp
  simp [Tryz.f125]
  rcases zad hp with ⟨h_1, hp⟩ | ⟨h_1, hp⟩
  ·try simp at h_1
   cases hp
   simp [Goal, FnEnd, h_1]
  ·try simp at h_1
   try simp [h_1]
   rcases zad hp with ⟨h_2, hp⟩ | ⟨h_2, hp⟩
   ·try simp at h_2
    cases hp
    simp [Goal, FnEnd, h_1, h_2]
   ·try simp at h_2
    try simp [h_1, h_2]
    rcases zad hp with ⟨h_3, hp⟩ | ⟨h_3, hp⟩
    ·try simp at h_3
     cases hp
     simp [Goal, FnEnd, h_1, h_2, h_3]
    ·try simp at h_3
     try simp [h_1, h_2, h_3]
     rcases zad hp with ⟨h_4, hp⟩ | ⟨h_4, hp⟩
     ·try simp at h_4
      cases hp
      simp [Goal, FnEnd, h_1, h_2, h_3, h_4]
     ·try simp at h_4
      try simp [h_1, h_2, h_3, h_4]
      rcases zad hp with ⟨h_5, hp⟩ | ⟨h_5, hp⟩
      ·try simp at h_5
       cases hp
       simp [Goal, FnEnd, h_1, h_2, h_3, h_4, h_5]
      ·try simp at h_5
       try simp [h_1, h_2, h_3, h_4, h_5]
       rcases zad hp with ⟨h_6, hp⟩ | ⟨h_6, hp⟩
       ·try simp at h_6
        cases hp
        simp [Goal, FnEnd, h_1, h_2, h_3, h_4, h_5, h_6]
       ·try simp at h_6
        try simp [h_1, h_2, h_3, h_4, h_5, h_6]
        rcases zad hp with ⟨h_7, hp⟩ | ⟨h_7, hp⟩
        ·try simp at h_7
         cases hp
         simp [Goal, FnEnd, h_1, h_2, h_3, h_4, h_5, h_6, h_7]
        ·try simp at h_7
         try simp [h_1, h_2, h_3, h_4, h_5, h_6, h_7]
         rcases zad hp with ⟨h_8, hp⟩ | ⟨h_8, hp⟩
         ·try simp at h_8
          cases hp
          simp [Goal, FnEnd, h_1, h_2, h_3, h_4, h_5, h_6, h_7, h_8]
         ·try simp at h_8
          try simp [h_1, h_2, h_3, h_4, h_5, h_6, h_7, h_8]
          rcases zad hp with ⟨h_9, hp⟩ | ⟨h_9, hp⟩
          ·try simp at h_9
           cases hp
           simp [Goal, FnEnd, h_1, h_2, h_3, h_4, h_5, h_6, h_7, h_8, h_9]
          ·try simp at h_9
           try simp [h_1, h_2, h_3, h_4, h_5, h_6, h_7, h_8, h_9]
           rcases zad hp with ⟨h_10, hp⟩ | ⟨h_10, hp⟩
           ·try simp at h_10
            cases hp
            simp [Goal, FnEnd, h_1, h_2, h_3, h_4, h_5, h_6, h_7, h_8, h_9, h_10]
           ·try simp at h_10
            try simp [h_1, h_2, h_3, h_4, h_5, h_6, h_7, h_8, h_9, h_10]
            rcases zad hp with ⟨h_11, hp⟩ | ⟨h_11, hp⟩
            ·try simp at h_11
             cases hp
             simp [Goal, FnEnd, h_1, h_2, h_3, h_4, h_5, h_6, h_7, h_8, h_9, h_10, h_11]
            ·try simp at h_11
             try simp [h_1, h_2, h_3, h_4, h_5, h_6, h_7, h_8, h_9, h_10, h_11]
             rcases zad hp with ⟨h_12, hp⟩ | ⟨h_12, hp⟩
             ·try simp at h_12
              cases hp
              simp [Goal, FnEnd, h_1, h_2, h_3, h_4, h_5, h_6, h_7, h_8, h_9, h_10, h_11, h_12]
             ·try simp at h_12
              cases hp
              simp [Goal, FnEnd, h_1, h_2, h_3, h_4, h_5, h_6, h_7, h_8, h_9, h_10, h_11, h_12]
theorem pc125 : PC Tryz.prog 125 C125 := pc_of (g := g125) (zai [] rfl trivial) ⟨Tryz.f125, Tryz.func125, by kernel_rfl, by kernel_rfl⟩ fun x y h => w125 h

noncomputable def C126 : List AV → Option AV := specP (X := ByteArray × Unit) fun x => spec_IsName x.1
theorem C126_eq {s} {y} (h : spec_IsName s = some y) : C126 [av .shr s] = some (Res.res y) := zag (X := ByteArray × Unit) (F := fun x => spec_IsName x.1) (x := (s, ())) h
noncomputable def g126 : Cfg := { P := Tryz.prog, take := [], keep := [((126, 2), { hd := [0, 3], bx := [], ex := [0], rt := [2] })], gho := [], ctx := [(49, C49)] }
@[simp] theorem g126_s : g126.P = Tryz.prog ∧ g126.take = [] ∧ g126.gho = [] ∧ g126.ro = [] ∧ g126.away = [] ∧ g126.give = [] ∧ g126.octx = [] ∧ lookN 49 g126.ctx = some C49 := by rw [g126]; exact ⟨rfl, rfl, rfl, rfl, rfl, rfl, rfl, rfl⟩
theorem w126 {s} {y} (hp : spec_IsName s = some y) : ∃ m, callo g126 0 126 [av .shr s] mem0 = some (Res.res y, m) := by
  refine zah (Tryz.f126.body.getD .skip) [.tmp 2] rfl rfl Tryz.func126 (by kernel_rfl) (by kernel_rfl) (by simp [Tryz.ntmps126]) rfl ?_
  unfold spec_IsName at hp
  simp [Tryz.f126]
  obtain ⟨r_16, h_17, hp⟩ := zaa hp
  obtain ⟨I_3, I_3_⟩ : ∃ I : Int → St → Prop, I = (fun (s_1 : Int) (σ : St) => σ.env 0 = .one (.s (.string s)) ∧ σ.env 3 = .one (.s (.int .i64 s_1)) ∧ σ.mem = mem0) := ⟨_, rfl⟩
  obtain ⟨X_4, X_4_⟩ : ∃ X : ((Unit) ⊕ (Unit)) → Out → Prop, X = (fun (r_16 : (Unit) ⊕ (Unit)) (out : Out) => Sum.elim (fun r_16 => ∃ σ : St, out = .ret σ ∧ σ.env 2 = .one (.s (.bool false)) ∧ σ.mem = mem0) (fun r_16 => ∃ σ : St, out = .exit 0 σ ∧ σ.env 0 = .one (.s (.string s)) ∧ σ.mem = mem0) r_16) := ⟨_, rfl⟩
  refine loopP ({ hd := [0, 3], bx := [], ex := [0], rt := [2] }) I_3 X_4 h_17 (by exact rfl) ?_ ?_ ?_
  ·rw [I_3_]
   refine ⟨?_, ?_, ?_⟩ <;> simp [zab, zac]
  ·intro s_1 σ_5 a_2 hI hp
   rw [I_3_] at hI
   obtain ⟨q_6, q_7, q_8⟩ := hI
   try simp [q_6, q_7, q_8]
   rcases zad hp with ⟨h_9, hp⟩ | ⟨h_9, hp⟩
   ·try simp at h_9
    obtain ⟨e_10, h_11, hp⟩ := zaa hp
    have c_12 := idx_str Tryz.underlying9 h_11
    try simp [q_6, q_7, q_8, h_9, c_12]
    rcases zad hp with ⟨h_13, hp⟩ | ⟨h_13, hp⟩
    ·try simp at h_13
     cases hp
     try simp [q_6, q_7, q_8, h_9, h_13]
     refine zao ?_
     rw [X_4_]
     refine ⟨_, rfl, ?_, ?_⟩ <;> simp [zab, zac, q_6, q_7, q_8, h_9, h_13]
    ·try simp at h_13
     obtain ⟨_, h_14, hp⟩ := zaa hp
     cases Option.some.inj (h_11.symm.trans h_14)
     try simp [q_6, q_7, q_8, h_9, h_13, c_12]
     rcases zad hp with ⟨h_15, hp⟩ | ⟨h_15, hp⟩
     ·try simp at h_15
      cases hp
      try simp [q_6, q_7, q_8, h_9, h_13, h_15]
      refine zao ?_
      rw [X_4_]
      refine ⟨_, rfl, ?_, ?_⟩ <;> simp [zab, zac, q_6, q_7, q_8, h_9, h_13, h_15]
     ·try simp at h_15
      cases hp
      try simp [q_6, q_7, q_8, h_9, h_13, h_15]
      refine zak ?_
      rw [I_3_]
      refine ⟨?_, ?_, ?_⟩ <;> simp [zab, zac, q_6, q_7, q_8, h_9, h_13, h_15]
   ·try simp at h_9
    cases hp
    try simp [q_6, q_7, q_8, h_9]
    refine zan ?_
    rw [X_4_]
    refine ⟨_, rfl, ?_, ?_⟩ <;> simp [zab, zac, q_6, q_7, q_8, h_9]
  ·intro out hX
   rw [X_4_] at hX
   rcases r_16 with r_16 | r_16
   ·simp only [Sum.elim_inl, Sum.elim_inr] at hX hp
    obtain ⟨σ_18, rfl, q_19, q_20⟩ := hX
    cases hp
    simp [Goal, FnEnd, q_19, q_20]
   ·simp only [Sum.elim_inl, Sum.elim_inr] at hX hp
    obtain ⟨σ_21, rfl, q_22, q_23⟩ := hX
    obtain ⟨y_24, h_25, hp⟩ := zaa hp
    have c_26 := C49_eq h_25
    simp at c_26
    cases hp
    simp [Goal, FnEnd, q_22, q_23, c_26]
theorem pc126 : PC Tryz.prog 126 C126 := pc_of (g := g126) (zai [(49, C49)] rfl ⟨pc49, trivial⟩) ⟨Tryz.f126, Tryz.func126, by kernel_rfl, by kernel_rfl⟩ fun x y h => w126 h

noncomputable def C82 : List AV → Option AV := specP (X := (List ByteArray) × ByteArray × Unit) fun x => spec_IndexOf x.1 x.2.1
theorem C82_eq {list s} {y} (h : spec_IndexOf list s = some y) : C82 [av .shr list, av .shr s] = some (Res.res y) := zag (X := (List ByteArray) × ByteArray × Unit) (F := fun x => spec_IndexOf x.1 x.2.1) (x := (list, s, ())) h
noncomputable def g82 : Cfg := { P := Tryz.prog, take := [], keep := [((82, 2), { hd := [0, 1, 5], bx := [], ex := [], rt := [4] })], gho := [], ctx := [] }
@[simp] theorem g82_s : g82.P = Tryz.prog ∧ g82.take = [] ∧ g82.gho = [] ∧ g82.ro = [] ∧ g82.away = [] ∧ g82.give = [] ∧ g82.octx = [] := by rw [g82]; exact ⟨rfl, rfl, rfl, rfl, rfl, rfl, rfl⟩
theorem w82 {list s} {y} (hp : spec_IndexOf list s = some y) : ∃ m, callo g82 0 82 [av .shr list, av .shr s] mem0 = some (Res.res y, m) := by
  refine zah (Tryz.f82.body.getD .skip) [.tmp 4] rfl rfl Tryz.func82 (by kernel_rfl) (by kernel_rfl) (by simp [Tryz.ntmps82]) rfl ?_
  unfold spec_IndexOf at hp
  simp [Tryz.f82]
  obtain ⟨r_17, h_18, hp⟩ := zaa hp
  obtain ⟨I_3, I_3_⟩ : ∃ I : Int → St → Prop, I = (fun (s_1 : Int) (σ : St) => σ.env 0 = .one (.l .shr list.length (encL list)) ∧ σ.env 1 = .one (.s (.string s)) ∧ σ.env 5 = .one (.s (.int .i64 s_1)) ∧ σ.mem = mem0) := ⟨_, rfl⟩
  obtain ⟨X_4, X_4_⟩ : ∃ X : ((Int) ⊕ (Unit)) → Out → Prop, X = (fun (r_17 : (Int) ⊕ (Unit)) (out : Out) => Sum.elim (fun r_17 => ∃ σ : St, out = .ret σ ∧ σ.env 4 = .one (.s (.int .i64 r_17)) ∧ σ.mem = mem0) (fun r_17 => ∃ σ : St, out = .exit 0 σ ∧ σ.mem = mem0) r_17) := ⟨_, rfl⟩
  refine loopP ({ hd := [0, 1, 5], bx := [], ex := [], rt := [4] }) I_3 X_4 h_18 (by exact rfl) ?_ ?_ ?_
  ·rw [I_3_]
   refine ⟨?_, ?_, ?_, ?_⟩ <;> simp [zab, zac]
  ·intro s_1 σ_5 a_2 hI hp
   rw [I_3_] at hI
   obtain ⟨q_6, q_7, q_8, q_9⟩ := hI
   try simp [q_6, q_7, q_8, q_9]
   rcases zad hp with ⟨h_10, hp⟩ | ⟨h_10, hp⟩
   ·try simp at h_10
    obtain ⟨e_11, h_12, hp⟩ := zaa hp
    have b_13 := at_lo h_12
    have b_14 := at_hi h_12
    try simp at b_13 b_14
    have c_15 := seg_at' h_12 0 1 (by decide) (ds := [.sc (.string e_11)]) rfl
    try simp at c_15
    try simp [q_6, q_7, q_8, q_9, h_10, b_13, b_14, c_15]
    rcases zad hp with ⟨h_16, hp⟩ | ⟨h_16, hp⟩
    ·try simp at h_16
     cases hp
     try simp [q_6, q_7, q_8, q_9, h_10, h_16]
     refine zao ?_
     rw [X_4_]
     refine ⟨_, rfl, ?_, ?_⟩ <;> simp [zab, zac, q_6, q_7, q_8, q_9, h_10, h_16]
    ·try simp at h_16
     cases hp
     try simp [q_6, q_7, q_8, q_9, h_10, h_16]
     refine zak ?_
     rw [I_3_]
     refine ⟨?_, ?_, ?_, ?_⟩ <;> simp [zab, zac, q_6, q_7, q_8, q_9, h_10, h_16]
   ·try simp at h_10
    cases hp
    try simp [q_6, q_7, q_8, q_9, h_10]
    refine zan ?_
    rw [X_4_]
    exact ⟨_, rfl, by simp [zac, q_6, q_7, q_8, q_9, h_10]⟩
  ·intro out hX
   rw [X_4_] at hX
   rcases r_17 with r_17 | r_17
   ·simp only [Sum.elim_inl, Sum.elim_inr] at hX hp
    obtain ⟨σ_19, rfl, q_20, q_21⟩ := hX
    cases hp
    simp [Goal, FnEnd, q_20, q_21]
   ·simp only [Sum.elim_inl, Sum.elim_inr] at hX hp
    obtain ⟨σ_22, rfl, q_23⟩ := hX
    cases hp
    simp [Goal, FnEnd, q_23]
theorem pc82 : PC Tryz.prog 82 C82 := pc_of (g := g82) (zai [] rfl trivial) ⟨Tryz.f82, Tryz.func82, by kernel_rfl, by kernel_rfl⟩ fun x y h => w82 h

noncomputable def C77 : List AV → Option AV := specP (X := (List ByteArray) × Unit) fun x => spec_AreVars x.1
theorem C77_eq {list} {y} (h : spec_AreVars list = some y) : C77 [av .shr list] = some (Res.res y) := zag (X := (List ByteArray) × Unit) (F := fun x => spec_AreVars x.1) (x := (list, ())) h
noncomputable def g77 : Cfg := { P := Tryz.prog, take := [], keep := [((77, 2), { hd := [0, 3], bx := [], ex := [0], rt := [2] })], gho := [], ctx := [(49, C49), (82, C82), (126, C126)] }
@[simp] theorem g77_s : g77.P = Tryz.prog ∧ g77.take = [] ∧ g77.gho = [] ∧ g77.ro = [] ∧ g77.away = [] ∧ g77.give = [] ∧ g77.octx = [] ∧ lookN 49 g77.ctx = some C49 ∧ lookN 82 g77.ctx = some C82 ∧ lookN 126 g77.ctx = some C126 := by rw [g77]; exact ⟨rfl, rfl, rfl, rfl, rfl, rfl, rfl, rfl, rfl, rfl⟩
theorem w77 {list} {y} (hp : spec_AreVars list = some y) : ∃ m, callo g77 0 77 [av .shr list] mem0 = some (Res.res y, m) := by
  refine zah (Tryz.f77.body.getD .skip) [.tmp 2] rfl rfl Tryz.func77 (by kernel_rfl) (by kernel_rfl) (by simp [Tryz.ntmps77]) rfl ?_
  unfold spec_AreVars at hp
  simp [Tryz.f77]
  obtain ⟨r_28, h_29, hp⟩ := zaa hp
  obtain ⟨I_3, I_3_⟩ : ∃ I : Int → St → Prop, I = (fun (s_1 : Int) (σ : St) => σ.env 0 = .one (.l .shr list.length (encL list)) ∧ σ.env 3 = .one (.s (.int .i64 s_1)) ∧ σ.mem = mem0) := ⟨_, rfl⟩
  obtain ⟨X_4, X_4_⟩ : ∃ X : ((Unit) ⊕ (Unit)) → Out → Prop, X = (fun (r_28 : (Unit) ⊕ (Unit)) (out : Out) => Sum.elim (fun r_28 => ∃ σ : St, out = .ret σ ∧ σ.env 2 = .one (.s (.bool false)) ∧ σ.mem = mem0) (fun r_28 => ∃ σ : St, out = .exit 0 σ ∧ σ.env 0 = .one (.l .shr list.length (encL list)) ∧ σ.mem = mem0) r_28) := ⟨_, rfl⟩
  refine loopP ({ hd := [0, 3], bx := [], ex := [0], rt := [2] }) I_3 X_4 h_29 (by exact rfl) ?_ ?_ ?_
  ·rw [I_3_]
   refine ⟨?_, ?_, ?_⟩ <;> simp [zab, zac]
  ·intro s_1 σ_5 a_2 hI hp
   rw [I_3_] at hI
   obtain ⟨q_6, q_7, q_8⟩ := hI
   try simp [q_6, q_7, q_8]
   rcases zad hp with ⟨h_9, hp⟩ | ⟨h_9, hp⟩
   ·try simp at h_9
    obtain ⟨e_10, h_11, hp⟩ := zaa hp
    have b_12 := at_lo h_11
    have b_13 := at_hi h_11
    try simp at b_12 b_13
    have c_14 := seg_at' h_11 0 1 (by decide) (ds := [.sc (.string e_10)]) rfl
    try simp at c_14
    obtain ⟨y_15, h_16, hp⟩ := zaa hp
    have c_17 := C126_eq h_16
    simp at c_17
    try simp [q_6, q_7, q_8, h_9, b_12, b_13, c_14, c_17]
    rcases zad hp with ⟨h_18, hp⟩ | ⟨h_18, hp⟩
    ·try simp at h_18
     obtain ⟨e_19, h_20, hp⟩ := zaa hp
     cases Option.some.inj (h_11.symm.trans h_20)
     have b_21 := at_lo h_11
     have b_22 := at_hi h_11
     try simp at b_21 b_22
     have c_23 := seg_at' h_11 0 1 (by decide) (ds := [.sc (.string e_10)]) rfl
     try simp at c_23
     obtain ⟨y_24, h_25, hp⟩ := zaa hp
     have c_26 := C82_eq h_25
     simp at c_26
     try simp [q_6, q_7, q_8, h_9, h_18, b_21, b_22, c_23, c_26]
     rcases zad hp with ⟨h_27, hp⟩ | ⟨h_27, hp⟩
     ·try simp at h_27
      cases hp
      try simp [q_6, q_7, q_8, h_9, h_18, h_27]
      refine zao ?_
      rw [X_4_]
      refine ⟨_, rfl, ?_, ?_⟩ <;> simp [zab, zac, q_6, q_7, q_8, h_9, h_18, h_27]
     ·try simp at h_27
      cases hp
      try simp [q_6, q_7, q_8, h_9, h_18, h_27]
      refine zak ?_
      rw [I_3_]
      refine ⟨?_, ?_, ?_⟩ <;> simp [zab, zac, q_6, q_7, q_8, h_9, h_18, h_27]
    ·try simp at h_18
     cases hp
     try simp [q_6, q_7, q_8, h_9, h_18]
     refine zao ?_
     rw [X_4_]
     refine ⟨_, rfl, ?_, ?_⟩ <;> simp [zab, zac, q_6, q_7, q_8, h_9, h_18]
   ·try simp at h_9
    cases hp
    try simp [q_6, q_7, q_8, h_9]
    refine zan ?_
    rw [X_4_]
    refine ⟨_, rfl, ?_, ?_⟩ <;> simp [zab, zac, q_6, q_7, q_8, h_9]
  ·intro out hX
   rw [X_4_] at hX
   rcases r_28 with r_28 | r_28
   ·simp only [Sum.elim_inl, Sum.elim_inr] at hX hp
    obtain ⟨σ_30, rfl, q_31, q_32⟩ := hX
    cases hp
    simp [Goal, FnEnd, q_31, q_32]
   ·simp only [Sum.elim_inl, Sum.elim_inr] at hX hp
    obtain ⟨σ_33, rfl, q_34, q_35⟩ := hX
    obtain ⟨y_36, h_37, hp⟩ := zaa hp
    have c_38 := C49_eq h_37
    simp at c_38
    cases hp
    simp [Goal, FnEnd, q_34, q_35, c_38]
theorem pc77 : PC Tryz.prog 77 C77 := pc_of (g := g77) (zai [(49, C49), (82, C82), (126, C126)] rfl ⟨pc49, pc82, pc126, trivial⟩) ⟨Tryz.f77, Tryz.func77, by kernel_rfl, by kernel_rfl⟩ fun x y h => w77 h

noncomputable def C76 : List AV → Option AV := specP (X := (List ByteArray) × TStmt × Unit) fun x => spec_IsStmt x.1 x.2.1
theorem C76_eq {vars s} {y} (h : spec_IsStmt vars s = some y) : C76 [av .shr vars, av .shr s] = some (Res.res y) := zag (X := (List ByteArray) × TStmt × Unit) (F := fun x => spec_IsStmt x.1 x.2.1) (x := (vars, s, ())) h
noncomputable def g76 : Cfg := { P := Tryz.prog, take := [], keep := [], gho := [], ctx := [(77, C77), (82, C82), (125, C125)] }
@[simp] theorem g76_s : g76.P = Tryz.prog ∧ g76.take = [] ∧ g76.gho = [] ∧ g76.ro = [] ∧ g76.away = [] ∧ g76.give = [] ∧ g76.octx = [] ∧ lookN 77 g76.ctx = some C77 ∧ lookN 82 g76.ctx = some C82 ∧ lookN 125 g76.ctx = some C125 := by rw [g76]; exact ⟨rfl, rfl, rfl, rfl, rfl, rfl, rfl, rfl, rfl, rfl⟩
theorem w76 {vars s} {y} (hp : spec_IsStmt vars s = some y) : ∃ m, callo g76 0 76 [av .shr vars, av .shr s] mem0 = some (Res.res y, m) := by
  refine zah (Tryz.f76.body.getD .skip) [.tmp 4] rfl rfl Tryz.func76 (by kernel_rfl) (by kernel_rfl) (by simp [Tryz.ntmps76]) rfl ?_
  unfold spec_IsStmt at hp
  obtain ⟨y_1, h_2, hp⟩ := zaa hp
  have c_3 := C125_eq h_2
  simp at c_3
  obtain ⟨y_4, h_5, hp⟩ := zaa hp
  have c_6 := C77_eq h_5
  simp at c_6
  simp [Tryz.f76, c_3, c_6]
  rcases zad hp with ⟨h_7, hp⟩ | ⟨h_7, hp⟩
  ·try simp at h_7
   try simp [h_7]
   rcases zad hp with ⟨h_8, hp⟩ | ⟨h_8, hp⟩
   ·try simp at h_8
    cases hp
    simp [Goal, FnEnd, h_7, h_8]
   ·try simp at h_8
    try simp [h_7, h_8]
    rcases zad hp with ⟨h_9, hp⟩ | ⟨h_9, hp⟩
    ·try simp at h_9
     try simp [h_7, h_8, h_9]
     rcases zad hp with ⟨h_10, hp⟩ | ⟨h_10, hp⟩
     ·try simp at h_10
      cases hp
      simp [Goal, FnEnd, h_7, h_8, h_9, h_10]
     ·try simp at h_10
      try simp [h_7, h_8, h_9, h_10]
      rcases zad hp with ⟨h_11, hp⟩ | ⟨h_11, hp⟩
      ·try simp at h_11
       try simp [h_7, h_8, h_9, h_10, h_11]
       rcases zad hp with ⟨h_12, hp⟩ | ⟨h_12, hp⟩
       ·try simp at h_12
        cases hp
        simp [Goal, FnEnd, h_7, h_8, h_9, h_10, h_11, h_12]
       ·try simp at h_12
        cases hp
        simp [Goal, FnEnd, h_7, h_8, h_9, h_10, h_11, h_12]
      ·try simp at h_11
       obtain ⟨y_13, h_14, hp⟩ := zaa hp
       have c_15 := C82_eq h_14
       simp at c_15
       cases hp
       simp [Goal, FnEnd, h_7, h_8, h_9, h_10, h_11, c_15]
    ·try simp at h_9
     try simp [h_7, h_8, h_9]
     rcases zad hp with ⟨h_16, hp⟩ | ⟨h_16, hp⟩
     ·try simp at h_16
      try simp [h_7, h_8, h_9, h_16]
      rcases zad hp with ⟨h_17, hp⟩ | ⟨h_17, hp⟩
      ·try simp at h_17
       cases hp
       simp [Goal, FnEnd, h_7, h_8, h_9, h_16, h_17]
      ·try simp at h_17
       obtain ⟨y_18, h_19, hp⟩ := zaa hp
       have c_20 := C82_eq h_19
       simp at c_20
       try simp [h_7, h_8, h_9, h_16, h_17, c_20]
       rcases zad hp with ⟨h_21, hp⟩ | ⟨h_21, hp⟩
       ·try simp at h_21
        cases hp
        simp [Goal, FnEnd, h_7, h_8, h_9, h_16, h_17, h_21]
       ·try simp at h_21
        cases hp
        simp [Goal, FnEnd, h_7, h_8, h_9, h_16, h_17, h_21]
     ·try simp at h_16
      obtain ⟨y_22, h_23, hp⟩ := zaa hp
      have c_24 := C82_eq h_23
      simp at c_24
      try simp [h_7, h_8, h_9, h_16, c_24]
      rcases zad hp with ⟨h_25, hp⟩ | ⟨h_25, hp⟩
      ·try simp at h_25
       obtain ⟨y_26, h_27, hp⟩ := zaa hp
       have c_28 := C82_eq h_27
       simp at c_28
       cases hp
       simp [Goal, FnEnd, h_7, h_8, h_9, h_16, h_25, c_28]
      ·try simp at h_25
       cases hp
       simp [Goal, FnEnd, h_7, h_8, h_9, h_16, h_25]
  ·try simp at h_7
   cases hp
   simp [Goal, FnEnd, h_7]
theorem pc76 : PC Tryz.prog 76 C76 := pc_of (g := g76) (zai [(77, C77), (82, C82), (125, C125)] rfl ⟨pc77, pc82, pc125, trivial⟩) ⟨Tryz.f76, Tryz.func76, by kernel_rfl, by kernel_rfl⟩ fun x y h => w76 h

noncomputable def C46 : List AV → Option AV := specP (X := TProgram × Unit) fun x => spec_IsProgram x.1
theorem C46_eq {p_} {y} (h : spec_IsProgram p_ = some y) : C46 [av .shr p_] = some (Res.res y) := zag (X := TProgram × Unit) (F := fun x => spec_IsProgram x.1) (x := (p_, ())) h
noncomputable def g46 : Cfg := { P := Tryz.prog, take := [], keep := [((46, 2), { hd := [1, 3], bx := [4], ex := [1], rt := [2] })], gho := [], ctx := [(49, C49), (76, C76), (77, C77)] }
@[simp] theorem g46_s : g46.P = Tryz.prog ∧ g46.take = [] ∧ g46.gho = [] ∧ g46.ro = [] ∧ g46.away = [] ∧ g46.give = [] ∧ g46.octx = [] ∧ lookN 49 g46.ctx = some C49 ∧ lookN 76 g46.ctx = some C76 ∧ lookN 77 g46.ctx = some C77 := by rw [g46]; exact ⟨rfl, rfl, rfl, rfl, rfl, rfl, rfl, rfl, rfl, rfl⟩
theorem w46 {p_} {y} (hp : spec_IsProgram p_ = some y) : ∃ m, callo g46 0 46 [av .shr p_] mem0 = some (Res.res y, m) := by
  refine zah (Tryz.f46.body.getD .skip) [.tmp 2] rfl rfl Tryz.func46 (by kernel_rfl) (by kernel_rfl) (by simp [Tryz.ntmps46]) rfl ?_
  unfold spec_IsProgram at hp
  simp [Tryz.f46]
  obtain ⟨r_29, h_30, hp⟩ := zaa hp
  obtain ⟨I_3, I_3_⟩ : ∃ I : Int → St → Prop, I = (fun (s_1 : Int) (σ : St) => σ.env 1 = .one (.ptr (1, 1) 0) ∧ σ.env 3 = .one (.s (.int .i64 s_1)) ∧ σ.mem (1, 1) = some [(.l .shr p_.vars.length (encL p_.vars)), (.s (.int .i64 p_.points)), (.l .shr p_.edges.length (encL p_.edges))] ∧ NoBox [(1, 1)] σ.mem) := ⟨_, rfl⟩
  obtain ⟨X_4, X_4_⟩ : ∃ X : ((Unit) ⊕ (Unit)) → Out → Prop, X = (fun (r_29 : (Unit) ⊕ (Unit)) (out : Out) => Sum.elim (fun r_29 => ∃ σ : St, out = .ret σ ∧ σ.env 2 = .one (.s (.bool false)) ∧ σ.mem (1, 1) = some [(.l .shr p_.vars.length (encL p_.vars)), (.s (.int .i64 p_.points)), (.l .shr p_.edges.length (encL p_.edges))] ∧ NoBox [(1, 1)] σ.mem) (fun r_29 => ∃ σ : St, out = .exit 0 σ ∧ σ.env 1 = .one (.ptr (1, 1) 0) ∧ σ.mem (1, 1) = some [(.l .shr p_.vars.length (encL p_.vars)), (.s (.int .i64 p_.points)), (.l .shr p_.edges.length (encL p_.edges))] ∧ NoBox [(1, 1)] σ.mem) r_29) := ⟨_, rfl⟩
  refine loopP ({ hd := [1, 3], bx := [4], ex := [1], rt := [2] }) I_3 X_4 h_30 (by exact rfl) ?_ ?_ ?_
  ·rw [I_3_]
   refine ⟨?_, ?_, ?_, NoBox.restrict (by intro k hk hb; simp at hk hb; simp [hk, hb])⟩ <;> simp [zab, zac]
  ·intro s_1 σ_5 a_2 hI hp
   rw [I_3_] at hI
   obtain ⟨q_6, q_7, q_8, hn_9⟩ := hI
   try simp [q_6, q_7, q_8]
   rcases zad hp with ⟨h_10, hp⟩ | ⟨h_10, hp⟩
   ·try simp at h_10
    obtain ⟨e_11, h_12, hp⟩ := zaa hp
    have b_13 := at_lo h_12
    have b_14 := at_hi h_12
    try simp at b_13 b_14
    have c_15 := seg_at' h_12 0 5 (by decide) (ds := [.sc (.int .i64 e_11.from_), .sc (.int .i64 e_11.to_), .sc (.int .i64 e_11.stmt.kind), .sc (.string e_11.stmt.a), .sc (.string e_11.stmt.b)]) rfl
    try simp at c_15
    have n_16 := hn_9 (1, 4) (by simp)
    obtain ⟨y_17, h_18, hp⟩ := zaa hp
    have c_19 := C49_eq h_18
    simp at c_19
    try simp [q_6, q_7, q_8, h_10, b_13, b_14, c_15, n_16, c_19]
    rcases zad hp with ⟨h_20, hp⟩ | ⟨h_20, hp⟩
    ·try simp at h_20
     obtain ⟨y_21, h_22, hp⟩ := zaa hp
     have c_23 := C49_eq h_22
     simp at c_23
     try simp [q_6, q_7, q_8, h_10, h_20, c_23]
     rcases zad hp with ⟨h_24, hp⟩ | ⟨h_24, hp⟩
     ·try simp at h_24
      obtain ⟨y_25, h_26, hp⟩ := zaa hp
      have c_27 := C76_eq h_26
      simp at c_27
      try simp [q_6, q_7, q_8, h_10, h_20, h_24, c_27]
      rcases zad hp with ⟨h_28, hp⟩ | ⟨h_28, hp⟩
      ·try simp at h_28
       cases hp
       try simp [q_6, q_7, q_8, h_10, h_20, h_24, h_28]
       refine zak ?_
       rw [I_3_]
       refine ⟨?_, ?_, ?_, NoBox.restrict (by intro k hk hb; simp at hk hb; simp [hk, hb, q_6, q_7, q_8, h_10, h_20, h_24, h_28, hn_9 k (by simp [hk, hb])])⟩ <;> simp [zab, zac, q_6, q_7, q_8, h_10, h_20, h_24, h_28]
      ·try simp at h_28
       cases hp
       try simp [q_6, q_7, q_8, h_10, h_20, h_24, h_28]
       refine zao ?_
       rw [X_4_]
       refine ⟨_, rfl, ?_, ?_, NoBox.restrict (by intro k hk hb; simp at hk hb; simp [hk, hb, q_6, q_7, q_8, h_10, h_20, h_24, h_28, hn_9 k (by simp [hk, hb])])⟩ <;> simp [zab, zac, q_6, q_7, q_8, h_10, h_20, h_24, h_28]
     ·try simp at h_24
      cases hp
      try simp [q_6, q_7, q_8, h_10, h_20, h_24]
      refine zao ?_
      rw [X_4_]
      refine ⟨_, rfl, ?_, ?_, NoBox.restrict (by intro k hk hb; simp at hk hb; simp [hk, hb, q_6, q_7, q_8, h_10, h_20, h_24, hn_9 k (by simp [hk, hb])])⟩ <;> simp [zab, zac, q_6, q_7, q_8, h_10, h_20, h_24]
    ·try simp at h_20
     cases hp
     try simp [q_6, q_7, q_8, h_10, h_20]
     refine zao ?_
     rw [X_4_]
     refine ⟨_, rfl, ?_, ?_, NoBox.restrict (by intro k hk hb; simp at hk hb; simp [hk, hb, q_6, q_7, q_8, h_10, h_20, hn_9 k (by simp [hk, hb])])⟩ <;> simp [zab, zac, q_6, q_7, q_8, h_10, h_20]
   ·try simp at h_10
    cases hp
    try simp [q_6, q_7, q_8, h_10]
    refine zan ?_
    rw [X_4_]
    refine ⟨_, rfl, ?_, ?_, NoBox.restrict (by intro k hk hb; simp at hk hb; simp [hk, hb, q_6, q_7, q_8, h_10, hn_9 k (by simp [hk, hb])])⟩ <;> simp [zab, zac, q_6, q_7, q_8, h_10]
  ·intro out hX
   rw [X_4_] at hX
   rcases r_29 with r_29 | r_29
   ·simp only [Sum.elim_inl, Sum.elim_inr] at hX hp
    obtain ⟨σ_31, rfl, q_32, q_33, hn_34⟩ := hX
    cases hp
    simp [Goal, FnEnd, q_32, q_33]
   ·simp only [Sum.elim_inl, Sum.elim_inr] at hX hp
    obtain ⟨σ_35, rfl, q_36, q_37, hn_38⟩ := hX
    obtain ⟨y_39, h_40, hp⟩ := zaa hp
    have c_41 := C77_eq h_40
    simp at c_41
    try simp [q_36, q_37, c_41]
    rcases zad hp with ⟨h_42, hp⟩ | ⟨h_42, hp⟩
    ·try simp at h_42
     obtain ⟨y_43, h_44, hp⟩ := zaa hp
     have c_45 := C49_eq h_44
     simp at c_45
     try simp [q_36, q_37, h_42, c_45]
     rcases zad hp with ⟨h_46, hp⟩ | ⟨h_46, hp⟩
     ·try simp at h_46
      cases hp
      simp [Goal, FnEnd, q_36, q_37, h_42, h_46]
     ·try simp at h_46
      cases hp
      simp [Goal, FnEnd, q_36, q_37, h_42, h_46]
    ·try simp at h_42
     cases hp
     simp [Goal, FnEnd, q_36, q_37, h_42]
theorem pc46 : PC Tryz.prog 46 C46 := pc_of (g := g46) (zai [(49, C49), (76, C76), (77, C77)] rfl ⟨pc49, pc76, pc77, trivial⟩) ⟨Tryz.f46, Tryz.func46, by kernel_rfl, by kernel_rfl⟩ fun x y h => w46 h

noncomputable def C78 : List AV → Option AV := specP (X := THeap × Unit) fun x => spec_l7Cells x.1
theorem C78_eq {h_} {y} (h : spec_l7Cells h_ = some y) : C78 [av .shr h_] = some (Res.res y) := zag (X := THeap × Unit) (F := fun x => spec_l7Cells x.1) (x := (h_, ())) h
noncomputable def g78 : Cfg := { P := Tryz.prog, take := [], keep := [((78, 2), { hd := [1, 3], bx := [], ex := [1], rt := [2] }), ((78, 7), { hd := [1, 4], bx := [], ex := [], rt := [2] })], gho := [], ctx := [(49, C49)] }
@[simp] theorem g78_s : g78.P = Tryz.prog ∧ g78.take = [] ∧ g78.gho = [] ∧ g78.ro = [] ∧ g78.away = [] ∧ g78.give = [] ∧ g78.octx = [] ∧ lookN 49 g78.ctx = some C49 := by rw [g78]; exact ⟨rfl, rfl, rfl, rfl, rfl, rfl, rfl, rfl⟩
theorem w78 {h_} {y} (hp : spec_l7Cells h_ = some y) : ∃ m, callo g78 0 78 [av .shr h_] mem0 = some (Res.res y, m) := by
  refine zah (Tryz.f78.body.getD .skip) [.tmp 2] rfl rfl Tryz.func78 (by kernel_rfl) (by kernel_rfl) (by simp [Tryz.ntmps78]) rfl ?_
  unfold spec_l7Cells at hp
  simp [Tryz.f78]
  obtain ⟨r_20, h_21, hp⟩ := zaa hp
  obtain ⟨I_3, I_3_⟩ : ∃ I : Int → St → Prop, I = (fun (s_1 : Int) (σ : St) => σ.env 1 = .one (.ptr (1, 1) 0) ∧ σ.env 3 = .one (.s (.int .i64 s_1)) ∧ σ.mem (1, 1) = some [(.l .shr h_.vars.length (encL h_.vars)), (.l .shr h_.next.length (encL h_.next))] ∧ NoBox [(1, 1)] σ.mem) := ⟨_, rfl⟩
  obtain ⟨X_4, X_4_⟩ : ∃ X : ((Unit) ⊕ (Unit)) → Out → Prop, X = (fun (r_20 : (Unit) ⊕ (Unit)) (out : Out) => Sum.elim (fun r_20 => ∃ σ : St, out = .ret σ ∧ σ.env 2 = .one (.s (.bool false)) ∧ σ.mem (1, 1) = some [(.l .shr h_.vars.length (encL h_.vars)), (.l .shr h_.next.length (encL h_.next))] ∧ NoBox [(1, 1)] σ.mem) (fun r_20 => ∃ σ : St, out = .exit 0 σ ∧ σ.env 1 = .one (.ptr (1, 1) 0) ∧ σ.mem (1, 1) = some [(.l .shr h_.vars.length (encL h_.vars)), (.l .shr h_.next.length (encL h_.next))] ∧ NoBox [(1, 1)] σ.mem) r_20) := ⟨_, rfl⟩
  refine loopP ({ hd := [1, 3], bx := [], ex := [1], rt := [2] }) I_3 X_4 h_21 (by exact rfl) ?_ ?_ ?_
  ·rw [I_3_]
   refine ⟨?_, ?_, ?_, NoBox.restrict (by intro k hk hb; simp at hk hb; simp [hk, hb])⟩ <;> simp [zab, zac]
  ·intro s_1 σ_5 a_2 hI hp
   rw [I_3_] at hI
   obtain ⟨q_6, q_7, q_8, hn_9⟩ := hI
   try simp [q_6, q_7, q_8]
   rcases zad hp with ⟨h_10, hp⟩ | ⟨h_10, hp⟩
   ·try simp at h_10
    obtain ⟨e_11, h_12, hp⟩ := zaa hp
    have b_13 := at_lo h_12
    have b_14 := at_hi h_12
    try simp at b_13 b_14
    have c_15 := seg_at' h_12 0 1 (by decide) (ds := [.sc (.int .i64 e_11)]) rfl
    try simp at c_15
    obtain ⟨y_16, h_17, hp⟩ := zaa hp
    have c_18 := C49_eq h_17
    simp at c_18
    try simp [q_6, q_7, q_8, h_10, b_13, b_14, c_15, c_18]
    rcases zad hp with ⟨h_19, hp⟩ | ⟨h_19, hp⟩
    ·try simp at h_19
     cases hp
     try simp [q_6, q_7, q_8, h_10, h_19]
     refine zak ?_
     rw [I_3_]
     refine ⟨?_, ?_, ?_, NoBox.restrict (by intro k hk hb; simp at hk hb; simp [hk, hb, q_6, q_7, q_8, h_10, h_19, hn_9 k (by simp [hk, hb])])⟩ <;> simp [zab, zac, q_6, q_7, q_8, h_10, h_19]
    ·try simp at h_19
     cases hp
     try simp [q_6, q_7, q_8, h_10, h_19]
     refine zao ?_
     rw [X_4_]
     refine ⟨_, rfl, ?_, ?_, NoBox.restrict (by intro k hk hb; simp at hk hb; simp [hk, hb, q_6, q_7, q_8, h_10, h_19, hn_9 k (by simp [hk, hb])])⟩ <;> simp [zab, zac, q_6, q_7, q_8, h_10, h_19]
   ·try simp at h_10
    cases hp
    try simp [q_6, q_7, q_8, h_10]
    refine zan ?_
    rw [X_4_]
    refine ⟨_, rfl, ?_, ?_, NoBox.restrict (by intro k hk hb; simp at hk hb; simp [hk, hb, q_6, q_7, q_8, h_10, hn_9 k (by simp [hk, hb])])⟩ <;> simp [zab, zac, q_6, q_7, q_8, h_10]
  ·intro out hX
   rw [X_4_] at hX
   rcases r_20 with r_20 | r_20
   ·simp only [Sum.elim_inl, Sum.elim_inr] at hX hp
    obtain ⟨σ_22, rfl, q_23, q_24, hn_25⟩ := hX
    cases hp
    simp [Goal, FnEnd, q_23, q_24]
   ·simp only [Sum.elim_inl, Sum.elim_inr] at hX hp
    obtain ⟨σ_26, rfl, q_27, q_28, hn_29⟩ := hX
    try simp [q_27, q_28]
    obtain ⟨r_49, h_50, hp⟩ := zaa hp
    obtain ⟨I_32, I_32_⟩ : ∃ I : Int → St → Prop, I = (fun (s_30 : Int) (σ : St) => σ.env 1 = .one (.ptr (1, 1) 0) ∧ σ.env 4 = .one (.s (.int .i64 s_30)) ∧ σ.mem (1, 1) = some [(.l .shr h_.vars.length (encL h_.vars)), (.l .shr h_.next.length (encL h_.next))] ∧ NoBox [(1, 1)] σ.mem) := ⟨_, rfl⟩
    obtain ⟨X_33, X_33_⟩ : ∃ X : ((Bool) ⊕ (Unit)) → Out → Prop, X = (fun (r_49 : (Bool) ⊕ (Unit)) (out : Out) => Sum.elim (fun r_49 => ∃ σ : St, out = .ret σ ∧ σ.env 2 = .one (.s (.bool r_49)) ∧ σ.mem (1, 1) = some [(.l .shr h_.vars.length (encL h_.vars)), (.l .shr h_.next.length (encL h_.next))] ∧ NoBox [(1, 1)] σ.mem) (fun r_49 => ∃ σ : St, out = .exit 2 σ ∧ σ.mem (1, 1) = some [(.l .shr h_.vars.length (encL h_.vars)), (.l .shr h_.next.length (encL h_.next))] ∧ NoBox [(1, 1)] σ.mem) r_49) := ⟨_, rfl⟩
    refine loopP ({ hd := [1, 4], bx := [], ex := [], rt := [2] }) I_32 X_33 h_50 (by exact rfl) ?_ ?_ ?_
    ·rw [I_32_]
     refine ⟨?_, ?_, ?_, NoBox.restrict (by intro k hk hb; simp at hk hb; simp [hk, hb, q_27, q_28, hn_29 k (by simp [hk, hb])])⟩ <;> simp [zab, zac, q_27, q_28]
    ·intro s_30 σ_34 a_31 hI hp
     rw [I_32_] at hI
     obtain ⟨q_35, q_36, q_37, hn_38⟩ := hI
     try simp [q_35, q_36, q_37]
     rcases zad hp with ⟨h_39, hp⟩ | ⟨h_39, hp⟩
     ·try simp at h_39
      obtain ⟨e_40, h_41, hp⟩ := zaa hp
      have b_42 := at_lo h_41
      have b_43 := at_hi h_41
      try simp at b_42 b_43
      have c_44 := seg_at' h_41 0 1 (by decide) (ds := [.sc (.int .i64 e_40)]) rfl
      try simp at c_44
      obtain ⟨y_45, h_46, hp⟩ := zaa hp
      have c_47 := C49_eq h_46
      simp at c_47
      try simp [q_35, q_36, q_37, h_39, b_42, b_43, c_44, c_47]
      rcases zad hp with ⟨h_48, hp⟩ | ⟨h_48, hp⟩
      ·try simp at h_48
       cases hp
       try simp [q_35, q_36, q_37, h_39, h_48]
       refine zak ?_
       rw [I_32_]
       refine ⟨?_, ?_, ?_, NoBox.restrict (by intro k hk hb; simp at hk hb; simp [hk, hb, q_35, q_36, q_37, h_39, h_48, hn_38 k (by simp [hk, hb])])⟩ <;> simp [zab, zac, q_35, q_36, q_37, h_39, h_48]
      ·try simp at h_48
       cases hp
       try simp [q_35, q_36, q_37, h_39, h_48]
       refine zao ?_
       rw [X_33_]
       refine ⟨_, rfl, ?_, ?_, NoBox.restrict (by intro k hk hb; simp at hk hb; simp [hk, hb, q_35, q_36, q_37, h_39, h_48, hn_38 k (by simp [hk, hb])])⟩ <;> simp [zab, zac, q_35, q_36, q_37, h_39, h_48]
     ·try simp at h_39
      cases hp
      try simp [q_35, q_36, q_37, h_39]
      refine zan ?_
      rw [X_33_]
      exact ⟨_, rfl, by simp [zac, q_35, q_36, q_37, h_39], NoBox.restrict (by intro k hk hb; simp at hk hb; simp [hk, hb, q_35, q_36, q_37, h_39, hn_38 k (by simp [hk, hb])])⟩
    ·intro out hX
     rw [X_33_] at hX
     rcases r_49 with r_49 | r_49
     ·simp only [Sum.elim_inl, Sum.elim_inr] at hX hp
      obtain ⟨σ_51, rfl, q_52, q_53, hn_54⟩ := hX
      cases hp
      simp [Goal, FnEnd, q_52, q_53]
     ·simp only [Sum.elim_inl, Sum.elim_inr] at hX hp
      obtain ⟨σ_55, rfl, q_56, hn_57⟩ := hX
      cases hp
      simp [Goal, FnEnd, q_56]
theorem pc78 : PC Tryz.prog 78 C78 := pc_of (g := g78) (zai [(49, C49)] rfl ⟨pc49, trivial⟩) ⟨Tryz.f78, Tryz.func78, by kernel_rfl, by kernel_rfl⟩ fun x y h => w78 h
end Go.Proofs

