import Derived.Test.YtahcfnjgllpkdaaEvOps4
set_option linter.unusedSimpArgs false
set_option linter.unusedVariables false
set_option linter.unnecessarySimpa false
namespace Go.Ev
section
variable {g : Cfg} {d N : Nat} {G : Gh} {σ : St} {w : World} {a : Act} {dst : Option Nat} {ty : TypeId} {pos : String} {after : Array Edge} {guard : Option (Nat × Bool)}

theorem RDs_part {o o' : Ow} {m : Md} {p p' : List Nat} {b off : Nat} {cs : List D} (hm : m.isOwn = false) (h : RDs w G o m p b off 0 cs) (k size : Nat) :
    RDs w G o' m p' b (off + k) 0 ((cs.drop k).take size) :=
  RDs_of fun j x hj => by
    rw [List.getElem?_take] at hj
    split at hj
    · rw [List.getElem?_drop] at hj
      obtain ⟨v, hv, hr⟩ := RDs_get h (k + j) x hj
      refine ⟨v, ?_, RD_any hm hr⟩
      rw [← hv]; congr 2; omega
    · cases hj

theorem run_sliceOp {P : Program} {t e : TypeId} {i ei : TI} (hi : ti P t = some i) (he : i.elem = some e) (hei : ti P e = some ei) (ad : Option Addr) (n cap : Nat) (lo hi' : Option Value) (l hh : Int)
    (hlo : (lo = none ∧ l = 0) ∨ lo = some (.int .i64 l)) (hhi : (hi' = none ∧ hh = n) ∨ hi' = some (.int .i64 hh)) (h0 : 0 ≤ l) (h1 : l ≤ hh) (h2 : hh ≤ n) (h3 : n ≤ cap) :
    (Instr.sliceAt t (.slice ad n cap) lo hi' none).run P w = .ok (sliced ad l.toNat hh.toNat cap ei.size) w := by
  have hu := ti_elem hi he
  have hel : P.elem t = e := by simp [Program.elem, hu]
  have ht : P.underlying t = some (.slice (P.elem t)) := by rw [hel]; exact hu
  have hsz := ti_size hei w
  rw [run_sliceAt_slice w t _ lo hi' none ht]
  rcases hlo with ⟨rfl, rfl⟩ | rfl <;> rcases hhi with ⟨rfl, rfl⟩ | rfl
  · rw [run_slice_all w t ad n cap ht, hel, hsz]; simp
  · rw [run_slice_h w t ad n cap ht _ _ (by omega) (by omega), hel, hsz]; simp
  · rw [run_slice_l w t ad n cap ht _ _ h0 (by omega), hel, hsz]; simp
  · rw [run_slice_lh w t ad n cap ht _ _ _ _ h0 h1 (by omega), hel, hsz]; simp

theorem ok_slice (h : Sim d N G σ a.tmps w) (hd : dst.all (· < N) = true) (t : TypeId) (x : Operand) (lo hi' : Option Operand) {i ei : TI} {e : Nat} (hi : ti g.P t = some i) (he : i.elem = some e) (hei : ti g.P e = some ei)
    {m : Md} {n : Nat} {cs : List D} (hx : opnd σ.env x = .one (.l m n cs)) {l hh : Int} (hl : loOf lo σ.env = some l) (hh' : hiOf hi' σ.env n = some hh)
    (hb : 0 ≤ l ∧ l ≤ hh ∧ hh ≤ n ∧ cs.length = n * ei.size) :
    OpOK g.P d N G w a { dst, op := .slice t x lo hi' none, type := ty, pos, after, guard } σ (.one (.l m.copy (hh - l).toNat ((cs.drop (l.toNat * ei.size)).take ((hh - l).toNat * ei.size)))) := by
  have hv := h.opnd x
  rw [hx] at hv
  have hv1 : RD w G _ m [] (.sl n cs) (a.eval x) := hv
  obtain ⟨ad, cap, hva, hnc⟩ : ∃ ad cap, a.eval x = .slice ad n cap ∧ n ≤ cap := by
    have hv2 := hv1
    rw [RD] at hv2
    rcases hv2 with ⟨_, h0, ad, cap, hv', _⟩ | ⟨_, _, b, off, cap, hv', hc, _⟩
    · exact ⟨ad, cap, by rw [hv', h0], by omega⟩
    · exact ⟨_, cap, hv', hc⟩
  have hrun : (execOp a.eval { dst, op := .slice t x lo hi' none, type := ty, pos, after, guard }).run g.P w = .ok (.value (sliced ad l.toNat hh.toNat cap ei.size)) w := by
    simp only [execOp, hva]
    rw [Sem.run_bind]
    rw [show Option.map a.eval none = none from rfl]
    rw [run_sliceOp hi he hei ad n cap (lo.map a.eval) (hi'.map a.eval) l hh ?_ ?_ hb.1 hb.2.1 hb.2.2.1 hnc]
    · rfl
    · cases lo with
      | none => left; simp only [loOf, Option.some.injEq] at hl; exact ⟨rfl, hl.symm⟩
      | some y => right; simp only [loOf] at hl; rw [Option.map_some, toInt_ok hl (h.opnd y)]
    · cases hi' with
      | none => left; simp only [hiOf, Option.some.injEq] at hh'; exact ⟨rfl, hh'.symm⟩
      | some y => right; simp only [hiOf] at hh'; rw [Option.map_some, toInt_ok hh' (h.opnd y)]
  refine OpOK.mk hd hrun (Frm.refl _ _ _) h fun t' _ => ?_
  show RD w G _ m.copy [] (.sl _ _) _
  have hlen : ((cs.drop (l.toNat * ei.size)).take ((hh - l).toNat * ei.size)).length = (hh - l).toNat * ei.size := by
    rw [List.length_take, List.length_drop, hb.2.2.2]
    have : (hh - l).toNat * ei.size ≤ n * ei.size - l.toNat * ei.size := by
      rw [← Nat.sub_mul]
      exact Nat.mul_le_mul_right _ (by omega)
    omega
  have hsub : hh.toNat - l.toNat = (hh - l).toNat := by omega
  rw [RD]
  by_cases hz : (cs.drop (l.toNat * ei.size)).take ((hh - l).toNat * ei.size) = []
  · left
    refine ⟨hz, ?_, ?_⟩
    · rw [hz] at hlen
      by_cases hne : cs = []
      · rw [hne] at hv1
        rw [RD] at hv1
        rcases hv1 with ⟨_, h0, _⟩ | ⟨h1, _⟩
        · omega
        · exact absurd rfl h1
      · have hpos : 0 < ei.size := by
          rcases Nat.eq_zero_or_pos ei.size with hz0 | hp
          · exfalso; apply hne; apply List.eq_nil_of_length_eq_zero; rw [hb.2.2.2, hz0, Nat.mul_zero]
          · exact hp
        have : (hh - l).toNat * ei.size = 0 := by rw [← hlen]; rfl
        rcases Nat.mul_eq_zero.1 this with h | h
        · exact h
        · omega
    · have hz2 : (hh - l).toNat = 0 ∨ ei.size = 0 := by rw [hz] at hlen; exact Nat.mul_eq_zero.1 hlen.symm
      have hn0 : (hh - l).toNat = 0 := by
        rcases hz2 with h | h
        · exact h
        · rw [RD] at hv1
          rcases hv1 with ⟨_, h0, _⟩ | ⟨h1, _⟩
          · omega
          · exfalso; apply h1; apply List.eq_nil_of_length_eq_zero; rw [hb.2.2.2, h, Nat.mul_zero]
      exact ⟨_, _, by unfold sliced; rw [hsub, hn0], by simp [Md.copy_own]⟩
  · right
    have hcs : cs ≠ [] := by rintro rfl; simp at hz
    have hpos : 0 < (hh - l).toNat := by
      rcases Nat.eq_zero_or_pos (hh - l).toNat with h0 | hp
      · exfalso; apply hz; rw [h0, Nat.zero_mul, List.take_zero]
      · exact hp
    rw [RD] at hv1
    rcases hv1 with ⟨h0, _⟩ | ⟨_, hn, b, off, cap', hv', hc', hno, hs⟩
    · exact absurd h0 hcs
    · rw [hva] at hv'
      simp only [Value.slice.injEq, true_and] at hv'
      obtain ⟨rfl, rfl⟩ := hv'
      refine ⟨hz, hpos, b, off + l.toNat * ei.size, cap - l.toNat, ?_, by omega, ?_, ?_⟩
      · unfold sliced
        rw [if_neg (by omega), hsub, Option.map_some, Addr.add_lit]
      · have hu := use_of_node hno
        have hle : off + l.toNat * ei.size + ((cs.drop (l.toNat * ei.size)).take ((hh - l).toNat * ei.size)).length ≤ G.use b := by
          rw [hlen]
          have h3 : l.toNat * ei.size + (hh - l).toNat * ei.size ≤ n * ei.size := by
            rw [← Nat.add_mul]; exact Nat.mul_le_mul_right _ (by omega)
          rw [hb.2.2.2] at hu
          omega
        cases m with
        | own => exact ⟨nonbox_of_node hno, hle⟩
        | top => exact ⟨nonbox_of_node hno, hle⟩
        | shr => exact ⟨hno.1, hle⟩
        | bor => exact ⟨hno.1, hle⟩
      · rw [Md.copy_elem]
        have := RDs_copy (o' := Ow.slot d t') (p' := []) hs
        rw [Md.copy_elem] at this
        exact RDs_part (Md.copy_own m) this _ _

end
end Go.Ev
