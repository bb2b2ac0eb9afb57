import Derived.Test.YtahcfnjgllpkdaaEvSim3
import Derived.Laws.Slices
import Derived.Laws.CopyRow
import Derived.Laws.Tables
import Derived.Laws.Cells
import Derived.Laws.Rows
set_option linter.unusedSimpArgs false
set_option linter.unusedVariables false
set_option linter.unnecessarySimpa false
namespace Go.Ev

theorem ti_spec {P : Program} {t : Nat} {i : TI} (h : ti P t = some i) : ∃ info dd z, P.info? t = some info ∧ P.underlying t = some dd ∧ info.zero = some z ∧ i.size = info.size ∧ i.bytes = info.bytes ∧
    (i.agg = match dd with | .struct _ | .array _ _ => true | _ => false) ∧ (i.elem = match dd with | .slice e => some e | _ => none) ∧
    (i.flds = match dd with | .struct fs => fs.toList.map (fun f => (f.offset, f.type)) | _ => []) ∧ i.zero = z.cells.toList := by
  unfold ti at h
  split at h
  · rename_i info dd h1 h2
    split at h
    · rename_i z hz
      cases h
      refine ⟨info, dd, z, h1, h2, hz, rfl, rfl, ?_, ?_, ?_, rfl⟩
      · cases dd <;> rfl
      · cases dd <;> rfl
      · cases dd <;> rfl
    · cases h
  · cases h

theorem ti_elem {P : Program} {t e : Nat} {i : TI} (h : ti P t = some i) (he : i.elem = some e) : P.underlying t = some (.slice e) := by
  obtain ⟨info, dd, z, _, h2, _, _, _, _, h5, _, _⟩ := ti_spec h
  rw [h5] at he
  cases dd <;> simp at he
  subst he
  exact h2

theorem ti_size {P : Program} {t : Nat} {i : TI} (h : ti P t = some i) (w : World) : (sizeOf t).run P w = .ok i.size w := by
  obtain ⟨info, dd, z, h1, _, _, h4, _⟩ := ti_spec h
  simp [sizeOf, typeInfo, h1, h4]

theorem ti_fld {P : Program} {t k : Nat} {i : TI} {fd : Nat × Nat} (h : ti P t = some i) (hf : i.flds[k]? = some fd) : ∃ fs f, P.underlying t = some (.struct fs) ∧ fs[k]? = some f ∧ f.offset = fd.1 ∧ f.type = fd.2 := by
  obtain ⟨info, dd, z, _, h2, _, _, _, _, _, h6, _⟩ := ti_spec h
  rw [h6] at hf
  cases dd with
  | struct fs =>
    simp at hf
    obtain ⟨f, hf1, hf2⟩ := hf
    exact ⟨fs, f, h2, hf1, by rw [← hf2], by rw [← hf2]⟩
  | _ => simp at hf

theorem run_isAgg {P : Program} {t : Nat} {i : TI} (h : ti P t = some i) (w : World) : (isAgg t).run P w = .ok i.agg w := by
  obtain ⟨info, dd, z, _, h2, _, _, _, h4, _⟩ := ti_spec h
  rw [h4]
  cases dd <;> simp [isAgg, run_underlying h2]

section
variable {g : Cfg} {d N : Nat} {G : Gh} {σ : St} {w : World} {a : Act} {dst : Option Nat} {ty : TypeId} {pos : String} {after : Array Edge} {guard : Option (Nat × Bool)}

theorem RC_ep_move {o o' : Ow} {p p' : List Nat} {m : Md} {cs : List D} {ps : Nat} {v : Value} (h : RC w G o p (.ep m cs ps) v) : RC w G o' p' (.ep m cs ps) v := by
  have := RC_copy (o' := o') (p' := p') h
  exact this

theorem ok_nilCheck (h : Sim d N G σ a.tmps w) (hd : dst.all (· < N) = true) (x : Operand) {c : C} (hx : opnd σ.env x = .one c)
    (hc : (∃ k off, c = .ptr k off) ∨ (∃ m cs ps, c = .ep m cs ps)) : OpOK g.P d N G w a { dst, op := .nilCheck x, type := ty, pos, after, guard } σ (.one c) := by
  have hv := h.opnd x
  rw [hx] at hv
  rcases hc with ⟨k, off, rfl⟩ | ⟨m, cs, ps, rfl⟩
  · obtain ⟨hl, hv'⟩ := hv
    refine OpOK.mk (r := a.eval x) hd ?_ (Frm.refl _ _ _) h fun _ _ => ⟨hl, hv'⟩
    simp only [execOp, hv']
    rfl
  · have hv2 := hv
    obtain ⟨_, _, b, off, hv', _⟩ := hv
    refine OpOK.mk (r := a.eval x) hd ?_ (Frm.refl _ _ _) h fun _ _ => RC_ep_move hv2
    simp only [execOp, hv']
    rfl

theorem run_fieldAt {P : Program} {s k : Nat} {i fi : TI} {fd : Nat × Nat} (h : ti P s = some i) (hf : i.flds[k]? = some fd) (hfi : ti P fd.2 = some fi) (hz : fi.size ≠ 0) (b off : Nat) :
    (Instr.fieldAt s (.pointer (some ⟨b, off, none⟩)) k).run P w = .ok (.pointer (some ⟨b, off + fd.1, none⟩)) w := by
  obtain ⟨fs, f, hu, hfs, h1, h2⟩ := ti_fld h hf
  have hsz := ti_size hfi w
  rw [← h2] at hsz
  simp [Instr.fieldAt, run_underlying hu, hfs, Instr.sureAddr, fieldPlace, hsz, hz, Addr.add_lit, h1]

theorem ok_fieldAddr (h : Sim d N G σ a.tmps w) (hd : dst.all (· < N) = true) (s : TypeId) (x : Operand) (k : Nat) {i fi : TI} {fd : Nat × Nat} (hi : ti g.P s = some i) (hf : i.flds[k]? = some fd)
    (hfi : ti g.P fd.2 = some fi) (hz : fi.size ≠ 0) :
    (∀ key off, opnd σ.env x = .one (.ptr key off) → OpOK g.P d N G w a { dst, op := .fieldAddr s x k, type := ty, pos, after, guard } σ (.one (.ptr key (off + fd.1)))) ∧
    (∀ m cs ps, opnd σ.env x = .one (.ep m cs ps) → OpOK g.P d N G w a { dst, op := .fieldAddr s x k, type := ty, pos, after, guard } σ (.one (.ep m cs (ps + fd.1)))) := by
  have hv := h.opnd x
  constructor
  · intro key off hx
    rw [hx] at hv
    obtain ⟨hl, hv'⟩ := hv
    refine OpOK.mk (r := .pointer (some ⟨G.β key, off + fd.1, none⟩)) hd ?_ (Frm.refl _ _ _) h fun _ _ => ⟨hl, rfl⟩
    simp only [execOp, hv']
    simp [run_fieldAt hi hf hfi hz]
  · intro m cs ps hx
    rw [hx] at hv
    obtain ⟨hm, h1, b, off, hv', hk, hu, hs⟩ := hv
    refine OpOK.mk (r := .pointer (some ⟨b, off + ps + fd.1, none⟩)) hd ?_ (Frm.refl _ _ _) h fun _ _ => ⟨hm, h1, b, off, by rw [Nat.add_assoc], hk, hu, RDs_any hm hs⟩
    simp only [execOp, hv']
    simp [run_fieldAt hi hf hfi hz]

theorem Md.copy_own (m : Md) : m.copy.isOwn = false := by cases m <;> rfl
theorem Md.copy_elem_own (m : Md) : m.copy.elem.isOwn = false := by cases m <;> rfl
theorem Md.copy_elem (m : Md) : m.copy.elem = m.copy := by cases m <;> rfl

theorem RDs_copy {o o' : Ow} {p p' : List Nat} {m : Md} {b off i : Nat} {cs : List D} (h : RDs w G o m.elem p b off i cs) : RDs w G o' m.copy.elem p' b off i cs := by
  cases m with
  | own => exact RDs_bor h
  | top => exact RDs_bor h
  | shr => exact RDs_any rfl h
  | bor => exact RDs_any rfl h

theorem ok_indexAddr (h : Sim d N G σ a.tmps w) (hd : dst.all (· < N) = true) (t : TypeId) (x ix : Operand) {i ei : TI} {e : Nat} (hi : ti g.P t = some i) (he : i.elem = some e)
    (hei : ti g.P e = some ei) {n : Int} (hn : toInt (opnd σ.env ix) = some n) {m : Md} {len : Nat} {cs : List D} (hx : opnd σ.env x = .one (.l m len cs)) (hb : 0 ≤ n ∧ n < len) :
    OpOK g.P d N G w a { dst, op := .indexAddr t x ix, type := ty, pos, after, guard } σ (.one (.ep m.copy.elem cs (n.toNat * ei.size))) := by
  have hv := h.opnd x
  rw [hx] at hv
  have hv1 : RD w G _ m [] (.sl len cs) (a.eval x) := hv
  rw [RD] at hv1
  rcases hv1 with ⟨_, h0, _⟩ | ⟨h1, h2, b, off, cap, hv', hc, hno, hs⟩
  · subst h0; omega
  · have hix := toInt_ok hn (h.opnd ix)
    refine OpOK.mk (r := .pointer (some ⟨b, off + n.toNat * ei.size, none⟩)) hd ?_ (Frm.refl _ _ _) h fun _ _ =>
      ⟨Md.copy_elem_own m, h1, b, off, rfl, nonbox_of_node hno, use_of_node hno, RDs_copy hs⟩
    simp only [execOp, hv', hix]
    have hsz := ti_size hei w
    simp [Instr.indexAt, asIntOf, run_underlying (ti_elem hi he), hsz, hb.1, hb.2, Addr.add_lit]

theorem ok_indexAddrB (h : Sim d N G σ a.tmps w) (hd : dst.all (· < N) = true) (t : TypeId) (x ix : Operand) {i ei : TI} {e : Nat} (hi : ti g.P t = some i) (he : i.elem = some e)
    (hei : ti g.P e = some ei) {n : Int} (hn : toInt (opnd σ.env ix) = some n) {k : Key} {len sz : Nat} (hx : opnd σ.env x = .one (.bs k len sz)) (hb : 0 ≤ n ∧ n < len ∧ sz = ei.size) :
    OpOK g.P d N G w a { dst, op := .indexAddr t x ix, type := ty, pos, after, guard } σ (.one (.ptr k (n.toNat * ei.size))) := by
  have hv := h.opnd x
  rw [hx] at hv
  obtain ⟨hl, hz, ba, cap, hv', _, hc⟩ := hv
  obtain ⟨rfl, _, _⟩ := hc (by omega)
  have hix := toInt_ok hn (h.opnd ix)
  refine OpOK.mk (r := .pointer (some ⟨G.β k, n.toNat * ei.size, none⟩)) hd ?_ (Frm.refl _ _ _) h fun _ _ => ⟨hl, rfl⟩
  simp only [execOp, hv', hix]
  have hsz := ti_size hei w
  simp [Instr.indexAt, asIntOf, run_underlying (ti_elem hi he), hsz, hb.1, hb.2.1, Addr.add_lit]

theorem ok_lenB (h : Sim d N G σ a.tmps w) (hd : dst.all (· < N) = true) (x : Operand) (args : Array Operand) (argTypes : Array TypeId) (ha : args.toList = [x]) {t : Nat} (ht : argTypes[0]? = some t) {i : TI} {e : Nat}
    (hi : ti g.P t = some i) (he : i.elem = some e) {k : Key} {n sz : Nat} (hx : opnd σ.env x = .one (.bs k n sz)) :
    OpOK g.P d N G w a { dst, op := .call { callee := .builtin .len, args, argTypes }, type := ty, pos, after, guard } σ (.one (.s (.int .i64 n))) := by
  have hv := h.opnd x
  rw [hx] at hv
  obtain ⟨_, _, ba, cap, hv', _⟩ := hv
  have hargs : args = #[x] := by apply Array.ext'; simpa using ha
  subst hargs
  refine OpOK.mk (r := .int .i64 n) hd ?_ (Frm.refl _ _ _) h fun _ _ => ⟨rfl, rfl⟩
  simp [execOp, resolve, invoke, builtin, hv', Builtin.len_, ht, run_underlying (ti_elem hi he), goInt]

theorem take_seg {α : Type} {l : List α} {n off size : Nat} (h : off + size ≤ n) : ((l.take n).drop off).take size = (l.drop off).take size := by
  apply List.ext_getElem?
  intro j
  rw [List.getElem?_take, List.getElem?_take]
  split
  · rw [List.getElem?_drop, List.getElem?_drop, List.getElem?_take, if_pos (by omega)]
  · rfl

theorem ok_len (h : Sim d N G σ a.tmps w) (hd : dst.all (· < N) = true) (x : Operand) (args : Array Operand) (argTypes : Array TypeId) (ha : args.toList = [x]) {t : Nat} (ht : argTypes[0]? = some t) {i : TI} {e : Nat}
    (hi : ti g.P t = some i) (he : i.elem = some e) {m : Md} {n : Nat} {cs : List D} (hx : opnd σ.env x = .one (.l m n cs)) :
    OpOK g.P d N G w a { dst, op := .call { callee := .builtin .len, args, argTypes }, type := ty, pos, after, guard } σ (.one (.s (.int .i64 n))) := by
  have hv := h.opnd x
  rw [hx] at hv
  have hv1 : RD w G _ m [] (.sl n cs) (a.eval x) := hv
  rw [RD] at hv1
  have hargs : args = #[x] := by apply Array.ext'; simpa using ha
  subst hargs
  have hs : ∃ ad cap, a.eval x = .slice ad n cap := by
    rcases hv1 with ⟨_, h0, ad, cap, hv', _⟩ | ⟨_, _, b, off, cap, hv', _⟩
    · exact ⟨ad, cap, by rw [hv', h0]⟩
    · exact ⟨_, cap, hv'⟩
  obtain ⟨ad, cap, hv'⟩ := hs
  refine OpOK.mk (r := .int .i64 n) hd ?_ (Frm.refl _ _ _) h fun _ _ => ⟨rfl, rfl⟩
  simp [execOp, resolve, invoke, builtin, hv', Builtin.len_, ht, run_underlying (ti_elem hi he), goInt]

theorem mapM_ptrs {o : Act} (h : Sim d N G σ o.tmps w) : ∀ (xs : List Operand) (cs : List (Key × Nat)),
    (xs.mapM fun x => match opnd σ.env x with | .one (.ptr k off) => some (k, off) | _ => none) = some cs →
    (∀ c ∈ cs, G.live c.1) ∧ xs.map o.eval = cs.map fun c => .pointer (some ⟨G.β c.1, c.2, none⟩)
  | [], cs, hc => by
    simp at hc
    subst hc
    simp
  | x :: xs, cs, hc => by
    rw [List.mapM_cons] at hc
    have hx := h.opnd x
    split at hc
    · rename_i k off hx'
      rw [hx'] at hx
      simp only [bind, pure, Option.bind] at hc
      split at hc
      · cases hc
      · rename_i cs' hcs'
        cases hc
        obtain ⟨a1, a2⟩ := mapM_ptrs h xs cs' hcs'
        refine ⟨fun c hm => ?_, ?_⟩
        · rcases List.mem_cons.1 hm with rfl | hm
          · exact hx.1
          · exact a1 c hm
        · simp only [List.map_cons, a2, hx.2]
    · simp at hc

theorem ok_makeFunc (h : Sim d N G σ a.tmps w) (hd : dst.all (· < N) = true) (k : FuncId) (first caps : Array Operand) (hf : first.size = 0) {cs : List (Key × Nat)}
    (hc : (caps.toList.mapM fun x => match opnd σ.env x with | .one (.ptr k off) => some (k, off) | _ => none) = some cs) :
    OpOK g.P d N G w a { dst, op := .makeFunc (.func k) first caps, type := ty, pos, after, guard } σ (.one (.fn k cs)) := by
  obtain ⟨h1, h2⟩ := mapM_ptrs h _ _ hc
  have hf' : first = #[] := Array.eq_empty_of_size_eq_zero hf
  subst hf'
  refine OpOK.mk (r := .func (.func k) #[] (caps.map a.eval)) hd ?_ (Frm.refl _ _ _) h fun _ _ => ⟨h1, _, rfl, by rw [Array.toList_map]; exact h2⟩
  simp [execOp, Instr.makeFunc]

theorem seg_get {α : Type} {cs sg : List α} {off size : Nat} (h : seg cs off size = some sg) : off + size ≤ cs.length ∧ sg.length = size ∧ ∀ j, j < size → sg[j]? = cs[off + j]? := by
  unfold seg at h
  split at h
  · rename_i hle
    cases h
    refine ⟨hle, by rw [List.length_take, List.length_drop]; omega, fun j hj => ?_⟩
    rw [List.getElem?_take, if_pos hj, List.getElem?_drop]
  · cases h

/-- a reading's part -/
theorem RCs_seg {o : Ow} {p : List Nat} {i off size : Nat} {cs sg : List C} {vs : List Value} (h : RCs w G o p i cs vs) (hs : seg cs off size = some sg) :
    RCs w G o p (i + off) sg ((vs.drop off).take size) := by
  obtain ⟨hle, hl, hg⟩ := seg_get hs
  refine ⟨by rw [hl, List.length_take, List.length_drop, h.1]; omega, fun j c hj => ?_⟩
  have hjs : j < size := by
    rcases Nat.lt_or_ge j size with hlt | hge
    · exact hlt
    · rw [List.getElem?_eq_none (by omega)] at hj; cases hj
  rw [hg j hjs] at hj
  obtain ⟨x, hx, hr⟩ := h.2 (off + j) c hj
  refine ⟨x, by rw [List.getElem?_take, if_pos hjs, List.getElem?_drop]; exact hx, ?_⟩
  rw [show i + off + j = i + (off + j) by omega]
  exact hr


/-! loads -/
theorem run_loadVar_cells {P : Program} {t : Nat} {i : TI} (h : ti P t = some i) (b off : Nat) (vs : List Value) (hl : vs.length = i.size) (hc : ∀ j v, vs[j]? = some v → w.cell? ⟨b, off + j, none⟩ = some v)
    (hn : i.agg = false → i.size = 1) : (Instr.loadAt t (.pointer (some ⟨b, off, none⟩))).run P w = .ok (if i.agg then .agg vs.toArray else vs[0]?.getD undef) w := by
  have hcs : ∀ j v, vs[j]? = some v → w.cell? ((⟨b, off, none⟩ : Addr).add j) = some v := fun j v hv => by rw [Addr.add_lit]; exact hc j v hv
  simp only [Instr.loadAt, Instr.sureAddr, loadVar, Sem.run_bind, Sem.run_pure, Result.andThen_ok, run_isAgg h, Sem.run_ite]
  cases ha : i.agg with
  | true =>
    have hr := run_loadCells_list (P := P) w ⟨b, off, none⟩ vs hcs
    rw [hl] at hr
    simp [ti_size h, hr]
  | false =>
    have h1 := hn ha
    rw [h1] at hl
    match vs, hl with
    | [v], _ =>
      have := hc 0 v rfl
      simp at this
      simp [this]

theorem mkAV_ok {o : Ow} {agg : Bool} {cs : List C} {v : AV} (h : mkAV agg cs = some v) {vs : List Value} (hr : agg = true → RCs w G o [] 0 cs vs) (hr1 : agg = false → ∀ c, cs = [c] → ∃ x, vs = [x] ∧ RC w G o [] c x) :
    RA w G o v (if agg then .agg vs.toArray else vs[0]?.getD undef) ∧ (agg = false → cs.length = 1) := by
  unfold mkAV at h
  cases agg with
  | true =>
    simp only [if_true] at h
    cases h
    exact ⟨⟨vs.toArray, rfl, by simpa using hr rfl⟩, fun h => by cases h⟩
  | false =>
    simp only [Bool.false_eq_true, if_false] at h
    split at h
    · rename_i c
      cases h
      obtain ⟨x, rfl, hx⟩ := hr1 rfl c rfl
      exact ⟨hx, fun _ => rfl⟩
    · cases h

theorem arr_cell {b : Nat} {arr : Array Value} {e : TypeId} {fr : Nat × Nat} (h : w.heap[b]? = some (.cells arr e fr)) (off : Nat) : w.cell? ⟨b, off, none⟩ = arr[off]? := by
  simp [World.cell?, h]

theorem seg_cell {b : Nat} {arr : Array Value} {e : TypeId} {fr : Nat × Nat} (h : w.heap[b]? = some (.cells arr e fr)) (off size : Nat) (j : Nat) (v : Value) (hv : ((arr.toList.drop off).take size)[j]? = some v) :
    w.cell? ⟨b, off + j, none⟩ = some v := by
  rw [arr_cell h]
  rw [List.getElem?_take] at hv
  split at hv
  · rw [List.getElem?_drop, Array.getElem?_toList] at hv; exact hv
  · cases hv

theorem mkAV_len {agg : Bool} {cs : List C} {v : AV} (h : mkAV agg cs = some v) : agg = false → cs.length = 1 := by
  intro ha
  subst ha
  unfold mkAV at h
  simp only [Bool.false_eq_true, if_false] at h
  split at h
  · rfl
  · cases h

theorem RCs_one {o : Ow} {p : List Nat} {i : Nat} {c : C} {vs : List Value} (h : RCs w G o p i [c] vs) : ∃ x, vs = [x] ∧ RC w G o (p ++ [i]) c x := by
  obtain ⟨hl, hg⟩ := h
  match vs, hl with
  | [x], _ =>
    obtain ⟨y, hy, hr⟩ := hg 0 c rfl
    cases hy
    exact ⟨x, rfl, by simpa using hr⟩

/-- the machine's values at a part of a box -/
theorem Sim.vals (h : Sim d N G σ a.tmps w) {k : Key} {off size : Nat} {cs sg : List C} (hm : σ.mem k = some cs) (hs : seg cs off size = some sg) :
    ∃ vs : List Value, vs.length = size ∧ (∀ j u, vs[j]? = some u → w.cell? ⟨G.β k, off + j, none⟩ = some u) ∧ RCs w G (.cell k) [] (0 + off) sg vs := by
  obtain ⟨hle, hsl, _⟩ := seg_get hs
  by_cases hne : cs = []
  · subst hne
    have h0 : size = 0 := by simp at hle; omega
    subst h0
    obtain rfl := List.length_eq_zero_iff.1 hsl
    exact ⟨[], rfl, fun j u hu => by simp at hu, rfl, fun j c hj => by simp at hj⟩
  · obtain ⟨arr, e, ha, hb, hcap, hc⟩ := h.mem k cs hm hne
    have hseg := RCs_seg hc hs
    rw [take_seg hle] at hseg
    exact ⟨_, by rw [hseg.1, hsl], fun j u hu => seg_cell ha off size j u hu, hseg⟩

theorem ok_load (h : Sim d N G σ a.tmps w) (hd : dst.all (· < N) = true) (t : TypeId) (x : Operand) {i : TI} (hi : ti g.P t = some i) {k : Key} {off : Nat} (hx : opnd σ.env x = .one (.ptr k off))
    {cs sg : List C} (hm : σ.mem k = some cs) (hs : seg cs off i.size = some sg) {v : AV} (hv : mkAV i.agg (sg.map C.copy) = some v) :
    OpOK g.P d N G w a { dst, op := .load t x, type := ty, pos, after, guard } σ v := by
  have hxv := h.opnd x
  rw [hx] at hxv
  obtain ⟨hl, hxv⟩ := hxv
  obtain ⟨hle, hsl, _⟩ := seg_get hs
  obtain ⟨us, hlen, hcl, hseg⟩ := h.vals hm hs
  have hrun := run_loadVar_cells (w := w) hi (G.β k) off _ hlen hcl (fun hag => by rw [← hsl]; have := mkAV_len hv hag; rwa [List.length_map] at this)
  refine OpOK.mk (r := _) hd (by simp only [execOp, hxv]; simp only [Sem.run_bind, hrun, Result.andThen_ok]; rfl) (Frm.refl _ _ _) h fun t' _ => ?_
  refine (mkAV_ok hv (vs := us) (fun _ => RCs_copy hseg) (fun _ c hcs => ?_)).1
  have := RCs_copy (o' := .slot d t') (p' := []) (i' := 0) hseg
  rw [hcs] at this
  obtain ⟨y, hy, hr⟩ := RCs_one this
  refine ⟨y, hy, ?_⟩
  obtain ⟨c0, hc0⟩ : ∃ c0, sg = [c0] := by
    have hl1 : sg.length = 1 := by have := congrArg List.length hcs; simpa using this
    exact List.length_eq_one_iff.1 hl1
  subst hc0
  simp only [List.map_cons, List.map_nil, List.cons.injEq, and_true] at hcs
  subst hcs
  obtain ⟨y', hy', hr'⟩ := RCs_one hseg
  rw [hy] at hy'
  cases hy'
  exact RC_copy hr'

end
end Go.Ev
