import Derived.Test.YtahcfnjgllpkdaaEvOps6
import Derived.Great.BuildSlice
set_option linter.unusedSimpArgs false
set_option linter.unusedVariables false
set_option linter.unnecessarySimpa false
namespace Go.Ev
section
variable {g : Cfg} {d N : Nat} {G : Gh} {σ : St} {w : World} {a : Act} {dst : Option Nat} {ty : TypeId} {pos : String} {after : Array Edge} {guard : Option (Nat × Bool)}

theorem flatten_replicate {α : Type} (l : List α) : ∀ (n j : Nat), j < n * l.length → ((List.replicate n l).flatten)[j]? = l[j % l.length]?
  | 0, j, h => by omega
  | n + 1, j, h => by
    rw [List.replicate_succ, List.flatten_cons, List.getElem?_append]
    split
    · rename_i hlt; rw [Nat.mod_eq_of_lt hlt]
    · rename_i hge
      have hlt : j - l.length < n * l.length := by rw [Nat.add_mul] at h; omega
      rw [flatten_replicate l n _ hlt]
      congr 1
      rw [← Nat.mod_eq_sub_mod (by omega)]

theorem flatten_replicate_length {α : Type} (l : List α) (n : Nat) : ((List.replicate n l).flatten).length = n * l.length := by
  simp

theorem ti_info {P : Program} {t : Nat} {i : TI} (h : ti P t = some i) : ∃ info, P.info? t = some info ∧ info.size = i.size ∧ info.bytes = i.bytes ∧ ∃ z, info.zero = some z ∧ i.zero = z.cells.toList := by
  obtain ⟨info, dd, z, h1, _, h3, h4, h5, _, _, _, h8⟩ := ti_spec h
  exact ⟨info, h1, h4.symm, h5.symm, z, h3, h8⟩

theorem mapM_places {P : Program} : ∀ (fs : List Field) (pl : List (Nat × Nat)), (fs.map fun f => (f.offset, f.type)).mapM (fun fd => (ti P fd.2).map fun fi => (fd.1, fi.size)) = some pl →
    fs.mapM (fun f => (P.info? f.type).map fun i => (f.offset, i.size)) = some pl
  | [], pl, h => by simpa using h
  | f :: fs, pl, h => by
    rw [List.map_cons, List.mapM_cons] at h
    cases ht : ti P f.type with
    | none => rw [ht] at h; simp at h
    | some fi =>
      rw [ht] at h
      simp only [Option.map_some, bind, pure, Option.bind] at h
      split at h
      · cases h
      · rename_i pl' hpl'
        cases h
        obtain ⟨info, h1, h2, _⟩ := ti_info ht
        have ih := mapM_places fs pl' hpl'
        rw [List.mapM_cons, h1, ih]
        simp [h2]

theorem ok_build (h : Sim d N G σ a.tmps w) (hd : dst.all (· < N) = true) (t : TypeId) (parts : Array (Nat × Operand)) {i : TI} (hi : ti g.P t = some i) (hn : nodup (tmpsOf (parts.toList.map (·.2))) = true) {ps : List (Nat × List C)}
    (hps : (parts.toList.mapM fun p => (opnd σ.env p.2).cells.map fun cs => (p.1, cs)) = some ps) (hfl : i.flds.isEmpty = false) {pl : List (Nat × Nat)} (hpl : i.flds.mapM (fun fd => (ti g.P fd.2).map fun fi => (fd.1, fi.size)) = some pl)
    {cs : List C} (hf : fillC (fun j => pl[j]?) (i.zero.map C.ofValue) ps = some cs) :
    OpOK g.P d N G w a { dst, op := .build t parts, type := ty, pos, after, guard } { σ with env := parts.toList.foldl (fun e p => kil e p.2) σ.env } (.ag cs) := by
  obtain ⟨info, dd, z, h1, h2, h3, _, _, _, _, h7, h8⟩ := ti_spec hi
  have hst : ∃ fs, dd = .struct fs := by
    cases dd <;> first | exact ⟨_, rfl⟩ | (exfalso; simp at h7; rw [h7] at hfl; simp at hfl)
  obtain ⟨fs, rfl⟩ := hst
  simp only at h7
  rw [h7] at hpl
  have hmp := mapM_places fs.toList pl hpl
  have hbase : ∀ t' G', Rel (fun j c v => RC w G' (.slot d t') [j] c v) (i.zero.map C.ofValue) z.cells.toList := by
    intro t' G'
    rw [h8]
    have := RCs_ofValue (w := w) (G := G') (o := .slot d t') (p := []) (i := 0) z.cells.toList
    exact ⟨this.1, fun j c hj => by obtain ⟨y, hy, hr⟩ := this.2 j c hj; exact ⟨y, hy, by simpa using hr⟩⟩
  have fin : ∀ t', (∀ x, dst = some x → x = t') → OpOK g.P d N G w a { dst, op := .build t parts, type := ty, pos, after, guard } { σ with env := parts.toList.foldl (fun e p => kil e p.2) σ.env } (.ag cs) := by
    intro t' ht'
    obtain ⟨G', hS, hF, arr, hfill, hrel⟩ := sim_parts h (fun j => pl[j]?) parts.toList hn hps t' (hbase t') hf
    refine OpOK.mk (r := .agg arr) hd ?_ hF hS fun x hx => ?_
    · have hb : g.P.built t (parts.map fun (i, x) => (i, a.eval x)).toList = some arr := by
        unfold Program.built
        simp only [h1, h2, h3, hmp]
        rw [← hfill]
        congr 1
        · funext x; simp
        · simp
      simp only [execOp, Sem.run_bind, run_build w t _ arr hb, Result.andThen_ok]
      rfl
    · obtain rfl := ht' x hx
      exact ⟨arr, rfl, hrel.1, fun j c hj => by obtain ⟨y, hy, hr⟩ := hrel.2 j c hj; exact ⟨y, hy, by simpa using hr⟩⟩
  cases dst with
  | none => exact fin 0 (fun x hx => by cases hx)
  | some t' => exact fin t' (fun x hx => by cases hx; rfl)

/-- a new row, read as data -/
theorem RD_newRow {o : Ow} {m : Md} (hm : m.isOwn = true) {n es cap : Nat} {ds : List D} {b : Nat} {arr : Array Value} {e : TypeId} (hb : w.heap[b]? = some (.cells arr e (0, 0))) (ho : G.own b = some (.at o [])) (hu : G.use b = ds.length)
    (hlen : ds.length = n * es) (hes : 0 < es) (hcap : n ≤ cap) (hroom : cap * es ≤ arr.size) (h0 : n = 0 → cap = 0)
    (hc : ∀ (j : Nat) x, ds[j]? = some x → ∃ v, arr[j]? = some v ∧ RD w G o m.elem [j] x v) : RD w G o m [] (.sl n ds) (.slice (some ⟨b, 0, none⟩) n cap) := by
  rw [RD]
  by_cases hn : n = 0
  · left
    subst hn
    exact ⟨List.eq_nil_of_length_eq_zero (by simpa using hlen), rfl, _, cap, rfl, fun _ => h0 rfl⟩
  · right
    refine ⟨by rintro rfl; rcases Nat.mul_eq_zero.1 hlen.symm with hx | hx <;> omega, by omega, b, 0, cap, rfl, hcap, ?_, RDs_of fun j x hj => ?_⟩
    · have hh : G.own b = some (.at o []) ∧ 0 + ds.length = G.use b ∧ 0 = 0 ∧ ∃ arr e, w.heap[b]? = some (.cells arr e (0, 0)) ∧ ∀ sz, ds.length = n * sz → 0 + cap * sz ≤ arr.size := by
        refine ⟨ho, by omega, rfl, arr, e, hb, fun sz hsz => ?_⟩
        have : sz = es := by
          rw [hlen] at hsz
          exact (Nat.eq_of_mul_eq_mul_left (by omega) hsz).symm
        subst this
        omega
      cases m <;> first | exact hh | simp [Md.isOwn] at hm
    · obtain ⟨v, hv, hr⟩ := hc j x hj
      refine ⟨v, ?_, by simpa using hr⟩
      rw [arr_cell hb]
      simpa using hv

/-- a new row's account -/
theorem Sim.newRow {tm : Array Value} (h : Sim d N G σ tm w) (arr : Array Value) (e : TypeId) (t u : Nat) :
    Sim d N (newG G w.heap.size (some (.at (.slot d t) [])) u) σ tm (w.alloc (.cells arr e)) ∧ Frm d G w (newG G w.heap.size (some (.at (.slot d t) [])) u) (w.alloc (.cells arr e)) := by
  have hH := newG_hand G w (.cells arr e) (some (.at (.slot d t) [])) u G.β G.cap G.live (fun k hk => ⟨hk, rfl, rfl⟩)
  refine ⟨{ sz := h.sz, env := fun t => (hH _ _).ra0 (h.env t), mem := fun k2 cs2 hk2 hn2 => ?_, live := h.live, dep := h.dep, wf := ?_, wfb := ?_, wfc := ?_, age := h.age, fut := fun b hb => h.fut b (by rw [World.size_alloc] at hb; omega), aged := ?_ }, newG_frm d G w _ _ _ _ _ _ _ (fun _ h => ⟨h, rfl, rfl⟩)⟩
  · obtain ⟨arr2, e2, h1, h2, h2c, h3⟩ := h.mem k2 cs2 hk2 hn2
    have hlt : G.β k2 < w.heap.size := h.wf _ _ h2
    have hne : G.β k2 ≠ w.heap.size := Nat.ne_of_lt hlt
    refine ⟨arr2, e2, ?_, ?_, h2c, (hH _ _).rcs0 h3⟩
    · show (w.alloc _).heap[G.β k2]? = _; rw [heap_old w _ hlt]; exact h1
    · show upd G.own _ _ (G.β k2) = _; simp only [upd, hne, if_false]; exact h2
  · intro b t2 hb
    have hb' : upd G.own w.heap.size (some (.at (.slot d t) [])) b = some t2 := hb
    rw [World.size_alloc]
    unfold upd at hb'
    split at hb'
    · omega
    · exact Nat.lt_succ_of_lt (h.wf b t2 hb')
  · intro b k2 hb
    have hb' : upd G.own w.heap.size (some (.at (.slot d t) [])) b = some (.box k2) := hb
    unfold upd at hb'
    split at hb'
    · cases hb'
    · exact h.wfb b k2 hb'
  · intro b k2 p hb
    have hb' : upd G.own w.heap.size (some (.at (.slot d t) [])) b = some (.at (.cell k2) p) := hb
    unfold upd at hb'
    split at hb'
    · cases hb'
    · exact h.wfc b k2 p hb'
  · intro b t2 hb
    have hb' : upd G.own w.heap.size (some (.at (.slot d t) [])) b = some t2 := hb
    unfold upd at hb'
    split at hb'
    · rename_i hbe
      cases hb'
      subst hbe
      show d ≤ G.age _
      rw [h.fut _ (Nat.le_refl _)]
      exact Nat.le_refl _
    · exact h.aged b t2 hb'

theorem toD_own {o : Ow} {p : List Nat} {c : C} {x : D} {v : Value} (hx : c.toD = some x) (ho : c.ownD = true) (h : RC w G o p c v) : RD w G o .own p x v := by
  cases c with
  | s u => simp only [C.toD, Option.some.injEq] at hx; subst hx; rw [RD]; exact h
  | l m n cs =>
    simp only [C.toD, Option.some.injEq] at hx
    subst hx
    cases m <;> first | exact h | simp [C.ownD] at ho
  | _ => simp [C.toD] at hx

theorem toD_shr {o : Ow} {p : List Nat} {c : C} {x : D} {v : Value} (hx : c.toD = some x) (ho : c.shrD = true) (h : RC w G o p c v) : RD w G o .shr p x v := by
  cases c with
  | s u => simp only [C.toD, Option.some.injEq] at hx; subst hx; rw [RD]; exact h
  | l m n cs =>
    simp only [C.toD, Option.some.injEq] at hx
    subst hx
    cases m <;> first | exact h | simp [C.shrD] at ho
  | _ => simp [C.toD] at hx

theorem modeOf_ok {o : Ow} {p : List Nat} {cs : List C} {m : Md} (hm : modeOf cs = some m) : m.isOwn = true ∧ ∀ c ∈ cs, ∀ x v, c.toD = some x → RC w G o p c v → RD w G o m.elem p x v := by
  unfold modeOf at hm
  split at hm
  · rename_i h1
    cases hm
    exact ⟨rfl, fun c hc x v hx hr => toD_own hx (List.all_eq_true.1 h1 c hc) hr⟩
  · split at hm
    · rename_i h1
      cases hm
      exact ⟨rfl, fun c hc x v hx hr => toD_shr hx (List.all_eq_true.1 h1 c hc) hr⟩
    · cases hm

theorem mapM_toD : ∀ {cs : List C} {ds : List D}, cs.mapM C.toD = some ds → ds.length = cs.length ∧ ∀ (j : Nat) x, ds[j]? = some x → ∃ c, cs[j]? = some c ∧ c.toD = some x
  | [], ds, h => by simp at h; subst h; exact ⟨rfl, fun j x hj => by simp at hj⟩
  | c :: cs, ds, h => by
    rw [List.mapM_cons] at h
    cases hc : c.toD with
    | none => rw [hc] at h; simp at h
    | some y =>
      rw [hc] at h
      simp only [bind, pure, Option.bind] at h
      split at h
      · cases h
      · rename_i ds' hds'
        cases h
        obtain ⟨h1, h2⟩ := mapM_toD hds'
        refine ⟨by simp [h1], fun j x hj => ?_⟩
        cases j with
        | zero => cases hj; exact ⟨c, rfl, hc⟩
        | succ j => exact h2 j x hj

theorem fillC_length {place : Nat → Option (Nat × Nat)} : ∀ {ps : List (Nat × List C)} {cs cs' : List C}, fillC place cs ps = some cs' → cs'.length = cs.length
  | [], cs, cs', h => by simp only [fillC, Option.some.injEq] at h; rw [h]
  | (i, pc) :: ps, cs, cs', h => by
    simp only [fillC] at h
    cases hp : place i with
    | none => rw [hp] at h; cases h
    | some os =>
      obtain ⟨off, size⟩ := os
      rw [hp] at h
      simp only at h
      split at h
      · rename_i hsz
        rw [fillC_length h, splice_length _ _ _ (by omega)]
      · cases h

theorem made_rel {Q : Nat → C → Value → Prop} {z : Value} {size len : Nat} (hz : z.cells.size = size) (hpos : 0 < size) (hQ : ∀ j (u : Value), Q j (C.ofValue u) u) :
    Rel Q ((List.replicate len (z.cells.toList.map C.ofValue)).flatten) ((Array.range (len * size)).map (z.cells[· % z.cells.size]!)).toList := by
  have hl : (z.cells.toList.map C.ofValue).length = size := by rw [List.length_map, Array.length_toList, hz]
  refine ⟨by rw [flatten_replicate_length, hl]; simp, fun j c hj => ?_⟩
  have hjl : j < len * size := by
    rcases Nat.lt_or_ge j (len * size) with hlt | hge
    · exact hlt
    · rw [List.getElem?_eq_none (by rw [flatten_replicate_length, hl]; exact hge)] at hj; cases hj
  rw [flatten_replicate _ _ _ (by rw [hl]; exact hjl), hl, List.getElem?_map] at hj
  have hm : j % size < z.cells.size := by rw [hz]; exact Nat.mod_lt _ hpos
  rw [Array.getElem?_toList, Array.getElem?_eq_getElem hm] at hj
  simp only [Option.map_some, Option.some.injEq] at hj
  refine ⟨z.cells[j % size], ?_, by rw [← hj]; exact hQ _ _⟩
  rw [Array.getElem?_toList, Array.getElem?_map]
  have hm' : j % size < z.cells.size := hm
  simp only [hz]
  rw [Array.getElem?_range, if_pos hjl]
  simp only [Option.map_some, Option.some.injEq]
  exact getElem!_pos z.cells (j % size) hm'

theorem ok_buildSlice (h : Sim d N G σ a.tmps w) (hd : dst.all (· < N) = true) (t : TypeId) (len : Nat) (parts : Array (Nat × Operand)) {i ei : TI} {e : Nat} (hi : ti g.P t = some i) (he : i.elem = some e) (hei : ti g.P e = some ei)
    (hlen : ¬ (len * ei.size > 16777216 ∨ ei.size = 0)) (hzl : ¬ (ei.zero.map C.ofValue).length ≠ ei.size) (hn : nodup (tmpsOf (parts.toList.map (·.2))) = true) {ps : List (Nat × List C)}
    (hps : (parts.toList.mapM fun p => (opnd σ.env p.2).cells.map fun cs => (p.1, cs)) = some ps)
    {cs : List C} (hf : fillC (fun j => some (j * ei.size, ei.size)) ((List.replicate len (ei.zero.map C.ofValue)).flatten) ps = some cs) {m : Md} (hm : modeOf cs = some m) {ds : List D} (hds : cs.mapM C.toD = some ds) :
    OpOK g.P d N G w a { dst, op := .buildSlice t len parts, type := ty, pos, after, guard } { σ with env := parts.toList.foldl (fun e p => kil e p.2) σ.env } (.one (.l m len ds)) := by
  obtain ⟨info, h1, h2, _, z, h3, h4⟩ := ti_info hei
  have hzs : z.cells.size = ei.size := by
    rw [h4, List.length_map, Array.length_toList] at hzl
    omega
  have hpos : 0 < ei.size := by omega
  have fin : ∀ t', (∀ x, dst = some x → x = t') → OpOK g.P d N G w a { dst, op := .buildSlice t len parts, type := ty, pos, after, guard } { σ with env := parts.toList.foldl (fun e p => kil e p.2) σ.env } (.one (.l m len ds)) := by
    intro t' ht'
    rw [h4] at hf
    have hbase : ∀ G', Rel (fun j c v => RC w G' (.slot d t') [j] c v) ((List.replicate len (z.cells.toList.map C.ofValue)).flatten) ((Array.range (len * ei.size)).map (z.cells[· % z.cells.size]!)).toList :=
      fun G' => made_rel hzs hpos fun j u => RC_ofValue u
    obtain ⟨G', hS, hF, arr, hfill, hrel⟩ := sim_parts h _ parts.toList hn hps t' hbase hf
    obtain ⟨hS2, hF2⟩ := hS.newRow arr e t' ds.length
    have hH := newG_hand G' w (.cells arr e) (some (.at (.slot d t') [])) ds.length G'.β G'.cap G'.live (fun k hk => ⟨hk, rfl, rfl⟩)
    obtain ⟨hl1, hl2⟩ := mapM_toD hds
    have hcl : cs.length = len * ei.size := by rw [fillC_length hf, flatten_replicate_length, List.length_map, Array.length_toList, hzs]
    refine OpOK.mk (r := .slice (some ⟨w.heap.size, 0, none⟩) len len) hd ?_ (hF.trans hF2) hS2 fun x hx => ?_
    · have hz0 : ¬ (len * info.size > 2 ^ 24) := by rw [h2]; omega
      have hfill' : Instr.fill (fun i => some (i * info.size, info.size)) ((Array.range (len * info.size)).map ((if len * info.size = 0 then #[] else z.cells)[· % (if len * info.size = 0 then (#[] : Array Value) else z.cells).size]!)) (parts.toList.map fun p => (p.1, a.eval p.2)) = some arr := by
        rw [h2, ← hfill]
        congr 1
        split
        · rename_i h0; rw [h0]; simp
        · rfl
      simp only [execOp, Sem.run_bind]
      have : (Instr.buildSlice t len (parts.map fun x => match x with | (i, x) => (i, a.eval x))).run g.P w = .ok (.slice (some ⟨w.heap.size, 0, none⟩) len len) (w.alloc (.cells arr e)) := by
        have hpt : (parts.map fun x => match x with | (i, x) => (i, a.eval x)).toList = parts.toList.map fun p => (p.1, a.eval p.2) := by rw [Array.toList_map]
        simp only [Instr.buildSlice, Sem.run_bind, run_underlying (ti_elem hi he), Result.andThen_ok, ti_size hei]
        rw [← h2]
        by_cases h0 : len * info.size = 0
        · have hl0 : len = 0 := by rcases Nat.mul_eq_zero.1 h0 with hx | hx <;> omega
          subst hl0
          have hr0 : (Array.range 0) = #[] := rfl
          simp only [Nat.zero_mul, if_true, hr0] at hfill'
          have hfill2 : Instr.fill (fun i => some (i * info.size, info.size)) #[] (parts.toList.map fun p => (p.1, a.eval p.2)) = some arr := by simpa using hfill'
          simp [hr0, hfill2, newRow]
        · simp only [h0, if_false] at hfill'
          have hz0' : ¬ (16777216 < len * info.size) := by omega
          simp [h0, hz0', zeroValue, typeInfo, h1, h3, hfill', newRow]
      rw [this]
      rfl
    · obtain rfl := ht' x hx
      obtain ⟨hmo, hme⟩ := modeOf_ok (w := w) (G := G') (o := .slot d x) hm (p := [])
      refine RD_newRow (es := ei.size) hmo (heap_new w _) (by show upd _ _ _ _ = _; simp [upd]) (by show upd _ _ _ _ = _; simp [upd]) (by rw [hl1, hcl]) hpos (Nat.le_refl _) ?_ (fun h => h) fun j y hj => ?_
      · have := hrel.1
        rw [Array.length_toList, hcl] at this
        omega
      · obtain ⟨c, hc, hcy⟩ := hl2 j y hj
        obtain ⟨v, hv, hr⟩ := hrel.2 j c hc
        obtain ⟨_, hme⟩ := modeOf_ok (w := w) (G := G') (o := .slot d x) hm (p := [j])
        refine ⟨v, by rw [← Array.getElem?_toList]; exact hv, ?_⟩
        exact (hH (.slot d x) [j]).toHand.rd (hme c (List.mem_of_getElem? hc) y v hcy hr)
  cases dst with
  | none => exact fin 0 (fun x hx => by cases hx)
  | some t' => exact fin t' (fun x hx => by cases hx; rfl)

theorem ok_makeSlice (h : Sim d N G σ a.tmps w) (hd : dst.all (· < N) = true) (t : TypeId) (l c : Operand) {i ei : TI} {e : Nat} (hi : ti g.P t = some i) (he : i.elem = some e) (hei : ti g.P e = some ei) {n cp : Int}
    (hl : toInt (opnd σ.env l) = some n) (hc : toInt (opnd σ.env c) = some cp) (hz : ¬ ((ei.zero.map C.ofValue).length ≠ ei.size ∨ ei.size = 0)) (hb : 0 ≤ n ∧ cp = n ∧ n * (ei.bytes + 1) ≤ maxBytes) {zd : List D}
    (hzd : (ei.zero.map C.ofValue).mapM C.toD = some zd) :
    OpOK g.P d N G w a { dst, op := .makeSlice t l c, type := ty, pos, after, guard } σ (.one (.l .own n.toNat ((List.replicate n.toNat zd).flatten))) := by
  obtain ⟨info, h1, h2, h2b, z, h3, h4⟩ := ti_info hei
  have hzs : z.cells.size = ei.size := by rw [h4, List.length_map, Array.length_toList] at hz; omega
  have hpos : 0 < ei.size := by omega
  obtain ⟨hn0, rfl, hbytes⟩ := hb
  obtain ⟨hz1, hz2⟩ := mapM_toD hzd
  have hzl : zd.length = ei.size := by rw [hz1, h4, List.length_map, Array.length_toList, hzs]
  have hll := toInt_ok hl (h.opnd l)
  have hcc := toInt_ok hc (h.opnd c)
  have hN : (cp.toNat : Int) = cp := Int.toNat_of_nonneg hn0
  have hbound : cp * ((ei.bytes : Int) + 1) ≤ 70368744177664 := by simpa [maxBytes] using hbytes
  have hb1 : (info.bytes : Int) * cp ≤ 281474976710656 := by
    rw [h2b, Int.mul_comm]
    have h5 : cp * ((ei.bytes : Int) + 1) = cp * (ei.bytes : Int) + cp := by rw [Int.mul_add, Int.mul_one]
    omega
  have hb2 : cp ≤ 9223372036854775807 := by
    have h5 : cp * ((ei.bytes : Int) + 1) = cp * (ei.bytes : Int) + cp := by rw [Int.mul_add, Int.mul_one]
    have h6 : 0 ≤ cp * (ei.bytes : Int) := Int.mul_nonneg hn0 (by omega)
    omega
  have hrun := run_make (P := g.P) w t e info z (ti_elem hi he) h1 h3 .i64 .i64 cp cp hn0 (Int.le_refl _) hb1 hb2
  have fin : ∀ t', (∀ x, dst = some x → x = t') → OpOK g.P d N G w a { dst, op := .makeSlice t l c, type := ty, pos, after, guard } σ (.one (.l .own cp.toNat ((List.replicate cp.toNat zd).flatten))) := by
    intro t' ht'
    obtain ⟨hS2, hF2⟩ := h.newRow (madeCells z.cells (cp.toNat * info.size)) e t' (cp.toNat * ei.size)
    refine OpOK.mk (r := .slice (some ⟨w.heap.size, 0, none⟩) cp.toNat cp.toNat) hd ?_ hF2 hS2 fun x hx => ?_
    · simp only [execOp, hll, hcc, Sem.run_bind, hrun, Result.andThen_ok]
      rfl
    · obtain rfl := ht' x hx
      have hfl : ((List.replicate cp.toNat zd).flatten).length = cp.toNat * ei.size := by rw [flatten_replicate_length, hzl]
      refine RD_newRow (m := .own) (es := ei.size) rfl (heap_new w _) (by show upd _ _ _ _ = _; simp [upd]) (by show upd _ _ _ _ = _; simp [upd, hfl]) hfl hpos (Nat.le_refl _) ?_ (fun h => h) fun j y hj => ?_
      · rw [size_madeCells, h2]; exact Nat.le_refl _
      · have hjl : j < cp.toNat * ei.size := by
          rcases Nat.lt_or_ge j (cp.toNat * ei.size) with hlt | hge
          · exact hlt
          · rw [List.getElem?_eq_none (by rw [hfl]; exact hge)] at hj; cases hj
        rw [flatten_replicate _ _ _ (by rw [hzl]; exact hjl), hzl] at hj
        obtain ⟨c0, hc0, hcy⟩ := hz2 _ _ hj
        rw [h4, List.getElem?_map] at hc0
        have hm : j % ei.size < z.cells.size := by rw [hzs]; exact Nat.mod_lt _ hpos
        rw [Array.getElem?_toList, Array.getElem?_eq_getElem hm] at hc0
        simp only [Option.map_some, Option.some.injEq] at hc0
        refine ⟨z.cells[j % ei.size], ?_, ?_⟩
        · simp only [madeCells, Array.getElem?_map]
          rw [h2, Array.getElem?_range, if_pos hjl]
          simp only [Option.map_some, Option.some.injEq, hzs]
          exact getElem!_pos z.cells (j % ei.size) hm
        · subst hc0
          have hcr : RC (w.alloc (.cells (madeCells z.cells (cp.toNat * info.size)) e)) (newG G w.heap.size (some (.at (.slot d x) [])) (cp.toNat * ei.size)) (.slot d x) [j] (C.ofValue z.cells[j % ei.size]) z.cells[j % ei.size] := RC_ofValue _
          refine toD_own hcy ?_ hcr
          unfold C.ofValue at hcy ⊢
          split
          · rfl
          · rename_i hs
            rw [if_neg hs] at hcy
            split
            · rfl
            · rename_i hne
              split at hcy
              · rename_i heq; exact absurd heq hne
              · simp [C.toD] at hcy
  cases dst with
  | none => exact fin 0 (fun x hx => by cases hx)
  | some t' => exact fin t' (fun x hx => by cases hx; rfl)

theorem ok_makeSliceB (h : Sim d N G σ a.tmps w) {t' : Nat} (hd : (some t').all (· < N) = true) (t : TypeId) (l c : Operand) {i ei : TI} {e : Nat} (hi : ti g.P t = some i) (he : i.elem = some e) (hei : ti g.P e = some ei) {n cp : Int}
    (hl : toInt (opnd σ.env l) = some n) (hc : toInt (opnd σ.env c) = some cp) (hz : ¬ ((ei.zero.map C.ofValue).length ≠ ei.size ∨ ei.size = 0)) (hb : 0 ≤ n ∧ cp = n ∧ n * (ei.bytes + 1) ≤ maxBytes) (hk : σ.mem (d, t') = none) :
    OpOK g.P d N G w a { dst := some t', op := .makeSlice t l c, type := ty, pos, after, guard } { σ with mem := upd σ.mem (d, t') (some ((List.replicate n.toNat (ei.zero.map C.ofValue)).flatten)) } (.one (.bs (d, t') n.toNat ei.size)) := by
  obtain ⟨info, h1, h2, h2b, z, h3, h4⟩ := ti_info hei
  have hzs : z.cells.size = ei.size := by rw [h4, List.length_map, Array.length_toList] at hz; omega
  have hpos : 0 < ei.size := by omega
  obtain ⟨hn0, rfl, hbytes⟩ := hb
  have hll := toInt_ok hl (h.opnd l)
  have hcc := toInt_ok hc (h.opnd c)
  have hbound : cp * ((ei.bytes : Int) + 1) ≤ 70368744177664 := by simpa [maxBytes] using hbytes
  have hb1 : (info.bytes : Int) * cp ≤ 281474976710656 := by
    rw [h2b, Int.mul_comm]
    have h5 : cp * ((ei.bytes : Int) + 1) = cp * (ei.bytes : Int) + cp := by rw [Int.mul_add, Int.mul_one]
    omega
  have hb2 : cp ≤ 9223372036854775807 := by
    have h5 : cp * ((ei.bytes : Int) + 1) = cp * (ei.bytes : Int) + cp := by rw [Int.mul_add, Int.mul_one]
    have h6 : 0 ≤ cp * (ei.bytes : Int) := Int.mul_nonneg hn0 (by omega)
    omega
  have hrun := run_make (P := g.P) w t e info z (ti_elem hi he) h1 h3 .i64 .i64 cp cp hn0 (Int.le_refl _) hb1 hb2
  have hsz : (madeCells z.cells (cp.toNat * info.size)).size = cp.toNat * ei.size := by rw [size_madeCells, h2]
  have hrel := made_rel (Q := fun _ c v => ∀ G' : Gh, ∀ w' : World, ∀ p, RC w' G' (.cell (d, t')) p c v) (len := cp.toNat) hzs hpos (fun j u G' w' p => RC_ofValue u)
  rw [← h2] at hrel
  obtain ⟨G1, hS1, hF1, hβ1, hcap1⟩ := h.newBox hk (Nat.le_refl d) (madeCells z.cells (cp.toNat * info.size)) e _ hsz
  have hS2 := hS1.setMem (k := (d, t')) (cs := List.replicate (cp.toNat * ei.size) C.dead) (cs' := (List.replicate cp.toNat (ei.zero.map C.ofValue)).flatten) (by simp [upd]) (fun hz' h0 => hz' (by
    have h00 := congrArg List.length h0
    rw [List.length_replicate] at h00
    have h00 : cp.toNat * ei.size = 0 := h00
    rcases Nat.mul_eq_zero.1 h00 with h9 | h9
    · rw [h9]; rfl
    · omega)) (fun arr e' ha => by
    rw [hβ1, heap_new] at ha
    cases ha
    have hl2 : ((List.replicate cp.toNat (ei.zero.map C.ofValue)).flatten).length = (madeCells z.cells (cp.toNat * info.size)).toList.length := by
      have e1 : (madeCells z.cells (cp.toNat * info.size)).toList.length = cp.toNat * ei.size := by rw [← hsz]; exact Array.length_toList
      have e2 : (ei.zero.map C.ofValue).length = ei.size := by rw [h4, List.length_map, ← hzs]; exact Array.length_toList
      rw [e1, flatten_replicate_length, e2]
    rw [hl2, List.take_length, h4]
    exact ⟨hrel.1, fun j c hj => by obtain ⟨y, hy, hr⟩ := hrel.2 j c hj; exact ⟨y, hy, hr _ _ _⟩⟩)
  rw [show upd (upd σ.mem (d, t') (some (List.replicate (cp.toNat * ei.size) C.dead))) (d, t') _ = upd σ.mem (d, t') (some ((List.replicate cp.toNat (ei.zero.map C.ofValue)).flatten)) from upd_upd _ _ _ _] at hS2
  refine OpOK.mk (r := .slice (some ⟨w.heap.size, 0, none⟩) cp.toNat cp.toNat) hd ?_ hF1 hS2 fun x hx => ?_
  · simp only [execOp, hll, hcc, Sem.run_bind, hrun, Result.andThen_ok]
    rfl
  · exact ⟨by rw [hS2.live]; simp [upd], hpos, _, cp.toNat, rfl, fun h => h, fun _ => ⟨by rw [hβ1], Nat.le_refl _, by rw [hcap1, hsz]; exact Nat.le_refl _⟩⟩

end
end Go.Ev
