import Derived.Test.YtahcfnjgllpkdaaEvOps7
import Derived.Laws.AppendOwn
set_option linter.unusedSimpArgs false
set_option linter.unusedVariables false
set_option linter.unnecessarySimpa false
namespace Go.Ev
section
variable {g : Cfg} {d N : Nat} {G : Gh} {σ : St} {w : World} {a : Act} {dst : Option Nat} {ty : TypeId} {pos : String} {after : Array Edge} {guard : Option (Nat × Bool)}

/-- the base's cells stay in their places, what is appended comes behind the k-th; the base's own block goes to 'root' -/
def appT (d : Nat) (tx ty : Option Nat) (o' : Ow) (k : Nat) (inp : Bool) : Tag → Tag
  | .at (.slot d' t) q => if d' = d ∧ tx = some t then (match q with | [] => if inp then .at o' [] else .at .ret [] | j :: q' => .at o' (j :: q'))
      else if d' = d ∧ ty = some t then (match q with | [] => .at .ret [] | j :: q' => .at o' ((k + j) :: q')) else .at (.slot d' t) q
  | x => x

theorem appT_ok {d : Nat} (tx ty : Option Nat) (o' : Ow) (k : Nat) (inp : Bool) (hdp : o'.dep d ≤ d) : RenOK d (appT d tx ty o' k inp) where
  dp x p := by
    cases x with
    | cell k' => exact Nat.le_refl _
    | ret => exact Nat.le_refl _
    | slot d' t' =>
      simp only [appT]
      split
      · rename_i hc
        rw [hc.1]
        cases p
        · cases inp
          · exact Nat.le_refl _
          · exact hdp
        · exact hdp
      · split
        · rename_i hc
          rw [hc.1]
          cases p
          · exact Nat.le_refl _
          · exact hdp
        · exact Nat.le_refl _
  box _ := rfl
  foreign := rfl
  at_ x p := by
    cases x with
    | cell k' => exact ⟨_, _, rfl⟩
    | ret => exact ⟨_, _, rfl⟩
    | slot d' t' =>
      simp only [appT]
      split
      · cases p
        · cases inp <;> exact ⟨_, _, rfl⟩
        · exact ⟨_, _, rfl⟩
      · split
        · cases p <;> exact ⟨_, _, rfl⟩
        · exact ⟨_, _, rfl⟩
  keep x hx := by
    cases x with
    | foreign => rfl
    | box k => rfl
    | «at» o p =>
      cases o with
      | cell k' => rfl
      | ret => rfl
      | slot d' t' =>
        simp only [appT]
        rw [if_neg (by rintro ⟨rfl, _⟩; exact hx (Nat.le_refl _)), if_neg (by rintro ⟨rfl, _⟩; exact hx (Nat.le_refl _))]

def tmpOf : Operand → Option Nat
  | .tmp t => some t
  | _ => none

theorem Sim.sameHeap {tm : Array Value} (h : Sim d N G σ tm w) {w' : World} (hh : w'.heap = w.heap) (ho : w'.os = w.os ∧ w'.tape = w.tape ∧ w'.output = w.output) : Sim d N G σ tm w' ∧ Frm d G w G w' := by
  have hc : ∀ b off, w'.cell? ⟨b, off, none⟩ = w.cell? ⟨b, off, none⟩ := fun b off => by simp [World.cell?, hh]
  have hH : ∀ o p, Hands w G w' G o p o p fun _ => false := fun o p =>
    { tag := fun b q _ hq => ⟨hq, rfl, by rw [hh]⟩, nil := fun _ _ h => h, box := fun _ _ h => h, use := fun _ _ _ => Nat.le_refl _, cell := fun b off _ _ _ => hc b off, live := fun k hk _ => ⟨hk, rfl, rfl⟩ }
  refine ⟨{ sz := h.sz, env := fun t => (hH _ _).ra0 (h.env t), mem := fun k cs hk hn2 => ?_, live := h.live, dep := h.dep, wf := fun b t hb => by rw [hh]; exact h.wf b t hb, wfb := h.wfb, wfc := h.wfc, age := h.age, fut := fun b hb => h.fut b (by rwa [hh] at hb), aged := h.aged },
    { size := by rw [hh]; exact Nat.le_refl _, kept := ⟨ho, fun a ha => ⟨by rwa [hh], by simp [World.frozen?, hh]⟩⟩, same := fun b _ _ => ⟨by rw [hh], rfl, rfl⟩, age := fun _ _ _ => rfl, box := fun _ _ _ h => h, use := fun _ _ _ => Nat.le_refl _, cell := fun b off _ _ _ _ => hc b off, live := fun _ h _ => ⟨h, rfl, rfl⟩ }⟩
  obtain ⟨arr, e, h1, h2, h2c, h3⟩ := h.mem k cs hk hn2
  exact ⟨arr, e, by rw [hh]; exact h1, h2, h2c, (hH _ _).rcs0 h3⟩

theorem RD_sameHeap {w' : World} (hh : w'.heap = w.heap) {o : Ow} {m : Md} {p : List Nat} {x : D} {v : Value} (h : RD w G o m p x v) : RD w' G o m p x v := by
  have hH : Hand w G w' G o p o p := { tag := fun b q _ hq => ⟨hq, rfl, by rw [hh]⟩, nil := fun _ _ h => h, box := fun _ _ h => h, use := fun _ _ _ => Nat.le_refl _, cell := fun b off _ _ _ => by simp [World.cell?, hh] }
  exact hH.rd h

/-- an owned row grows in its place: cells behind its end are written -/
theorem Sim.grow {tm : Array Value} (h : Sim d N G σ tm w) {t b : Nat} {arr arr' : Array Value} {e : TypeId} {u : Nat} (hdead : σ.env t = .dead) (hown : G.own b = some (.at (.slot d t) [])) (ha : w.heap[b]? = some (.cells arr e (0, 0)))
    (hu : G.use b ≤ u) (hc : ∀ off, off < G.use b → arr'[off]? = arr[off]?) :
    Sim d N { G with use := upd G.use b u } σ tm (w.setRow b arr') ∧ Frm d G w { G with use := upd G.use b u } (w.setRow b arr') ∧
      (∀ o p, (∀ q, ¬ (o = .slot d t ∧ p ++ q = [])) → Hands w G (w.setRow b arr') { G with use := upd G.use b u } o p o p fun _ => false) := by
  have hcell : ∀ b' off, b' < w.heap.size → (∀ k, G.own b' ≠ some (.box k)) → off < G.use b' → (w.setRow b arr').cell? ⟨b', off, none⟩ = w.cell? ⟨b', off, none⟩ := by
    intro b' off _ _ hoff
    by_cases hb : b' = b
    · subst hb
      rw [cell_setRow_same w b' off arr arr' e _ ha, hc off hoff, arr_cell ha]
    · exact World.cell?_of_block (setRow_other w b b' arr' hb)
  have huse : ∀ b', G.use b' ≤ upd G.use b u b' := by
    intro b'
    unfold upd
    split
    · rename_i hb; rw [hb]; exact hu
    · exact Nat.le_refl _
  have hH : ∀ o p, (∀ q, ¬ (o = .slot d t ∧ p ++ q = [])) → Hands w G (w.setRow b arr') { G with use := upd G.use b u } o p o p fun _ => false := by
    intro o p hne
    refine { tag := fun b' q _ hq => ?_, nil := fun _ _ h => h, box := fun _ _ h => h, use := fun b' _ _ => huse b', cell := hcell, live := fun k hk _ => ⟨hk, rfl, rfl⟩ }
    have hb : b' ≠ b := by
      rintro rfl
      rw [hown] at hq
      simp only [Option.some.injEq, Tag.at.injEq] at hq
      exact hne q ⟨hq.1.symm, hq.2.symm⟩
    exact ⟨hq, by show upd G.use b u b' = _; simp [upd, hb], setRow_other w b b' arr' hb⟩
  refine ⟨{ sz := h.sz, env := fun t2 => ?_, mem := fun k cs hk hn2 => ?_, live := h.live, dep := h.dep, wf := fun b' t' hb => by rw [setRow_size]; exact h.wf b' t' hb, wfb := h.wfb, wfc := h.wfc, age := h.age, fut := fun b hb => h.fut b (by rwa [setRow_size] at hb), aged := h.aged }, ?_, hH⟩
  · by_cases ht : t2 = t
    · subst ht; rw [hdead]; exact trivial
    · exact (hH _ _ (by rintro q ⟨h1, _⟩; simp only [Ow.slot.injEq, true_and] at h1; exact ht h1)).ra0 (h.env t2)
  · obtain ⟨arr2, e2, h1, h2, h2c, h3⟩ := h.mem k cs hk hn2
    have hne : G.β k ≠ b := by
      intro hb
      rw [hb, hown] at h2
      cases h2
    exact ⟨arr2, e2, by rw [setRow_other w b _ arr' hne]; exact h1, h2, h2c, (hH _ _ (by rintro q ⟨h1, _⟩; cases h1)).rcs0 h3⟩
  · refine { size := by rw [setRow_size]; exact Nat.le_refl _, kept := kept_setRow ha, same := fun b' _ ht => ?_, age := fun _ _ _ => rfl, box := fun _ _ _ h => h, use := fun b' _ _ => huse b', cell := fun b off hb _ => hcell b off hb, live := fun _ h _ => ⟨h, rfl, rfl⟩ }
    have hb : b' ≠ b := by rintro rfl; apply ht; rw [hown]; exact Nat.le_refl d
    exact ⟨setRow_other w b b' arr' hb, rfl, by show upd G.use b u b' = _; simp [upd, hb]⟩

theorem RD_oneCell {o : Ow} {m : Md} {p : List Nat} {x : D} {v : Value} (h : RD w G o m p x v) : v.oneCell' = true := by
  cases x with
  | sc u => rw [RD] at h; obtain ⟨rfl, hs⟩ := h; cases v <;> first | rfl | simp [scal] at hs
  | sl n cs =>
    rw [RD] at h
    rcases h with ⟨_, _, ad, cap, rfl, _⟩ | ⟨_, _, b, off, cap, rfl, _⟩ <;> rfl

theorem RDs_vals2 {o : Ow} {m : Md} {p : List Nat} {b off : Nat} : ∀ {cs : List D} {i : Nat}, RDs w G o m p b off i cs →
    ∃ vs : List Value, vs.length = cs.length ∧ (∀ j v, vs[j]? = some v → w.cell? ⟨b, off + (i + j), none⟩ = some v) ∧ (∀ (j : Nat) x, cs[j]? = some x → ∃ v, vs[j]? = some v ∧ RD w G o m (p ++ [i + j]) x v)
  | [], i, _ => ⟨[], rfl, fun j v hv => by simp at hv, fun j c hc => by simp at hc⟩
  | x :: cs, i, h => by
    rw [RDs] at h
    obtain ⟨⟨v, hv, hr⟩, hs⟩ := h
    obtain ⟨vs, h1, h2, h4⟩ := RDs_vals2 hs
    refine ⟨v :: vs, by simp [h1], fun j u hu => ?_, fun j c hc => ?_⟩
    · cases j with
      | zero => cases hu; exact hv
      | succ j => have := h2 j u hu; rw [show i + (j + 1) = i + 1 + j by omega]; exact this
    · cases j with
      | zero => cases hc; exact ⟨v, rfl, hr⟩
      | succ j =>
        obtain ⟨x', hx', hr'⟩ := h4 j c hc
        exact ⟨x', hx', by rw [show i + (j + 1) = i + 1 + j by omega]; exact hr'⟩

theorem run_append_in {P : Program} (t ty e : TypeId) (i : TypeInfo) (ht : P.underlying t = some (.slice e)) (hi : P.info? e = some i)
    (b off sLen sCap : Nat) (cur : Array Value) (eb : TypeId) (hg : w.heap[b]? = some (.cells cur eb (0, 0)))
    (ad : Addr) (m c : Nat) (news : List Value) (hl : news.length = m * i.size) (hnews : ∀ j u, news[j]? = some u → w.cell? (ad.add j) = some u) (h1 : ∀ u ∈ news, u.oneCell' = true)
    (hroom : sLen + m ≤ sCap) (hfit : off + sLen * i.size + news.length ≤ cur.size) :
    (Builtin.append_ #[t, t] ty #[.slice (some ⟨b, off, none⟩) sLen sCap, .slice (some ad) m c]).run P w =
      .ok (.slice (some ⟨b, off, none⟩) (sLen + m) sCap) (w.setRow b (splice cur.toList (off + sLen * i.size) news).toArray) := by
  have hf := run_firstCells_some (P := P) w i.size m ad m c news hl hnews
  have hst := run_storeCells_at P b (off + sLen * i.size) eb news 0 cur w hg (by simpa using hfit) h1
  simp only [Nat.add_zero] at hst
  simp [Builtin.append_, run_underlying ht, sizeOf, typeInfo, hi, Builtin.lenOf, hroom, hf, Addr.add_lit, hst, splice]

theorem all_isSc {cs : List D} (h : cs.all D.isSc = true) {j : Nat} {x : D} (hj : cs[j]? = some x) : ∃ v, x = .sc v := by
  have := List.all_eq_true.1 h x (List.mem_of_getElem? hj)
  cases x with
  | sc v => exact ⟨v, rfl⟩
  | sl n cs => simp [D.isSc] at this

theorem owner_tmp {x : Operand} {t : Nat} (h : tmpOf x = some t) : x = .tmp t := by
  cases x <;> simp [tmpOf] at h
  rw [h]

theorem run_append_zero {P : Program} (t ty e : TypeId) (i : TypeInfo) (ht : P.underlying t = some (.slice e)) (hi : P.info? e = some i) (base : Option Addr) (n cap : Nat) (hnc : n ≤ cap) (ay : Option Addr) (cy : Nat) :
    (Builtin.append_ #[t, t] ty #[.slice base n cap, .slice ay 0 cy]).run P w = .ok (.slice base n cap) w := by
  cases ay <;> cases base <;> simp [Builtin.append_, run_underlying ht, sizeOf, typeInfo, hi, Builtin.lenOf, hnc, Builtin.firstCells, loadCells, loadCellsFrom, storeCells]

theorem const_empty {v : Value} {m : Md} {n : Nat} {cs : List D} (h : AV.ofValue v = .one (.l m n cs)) : n = 0 ∧ cs = [] := by
  unfold AV.ofValue at h
  split at h
  · cases h
  · simp only [AV.one.injEq] at h
    unfold C.ofValue at h
    split at h
    · cases h
    · split at h
      · cases h; exact ⟨rfl, rfl⟩
      · cases h

/-- a slice operand: a slot's, or an empty constant -/
theorem slice_opnd {x : Operand} {m : Md} {n : Nat} {cs : List D} {env : Nat → AV} (h : opnd env x = .one (.l m n cs)) : (∃ t, x = .tmp t) ∨ (n = 0 ∧ cs = []) := by
  cases x with
  | tmp t => exact .inl ⟨t, rfl⟩
  | const v => exact .inr (const_empty h)
  | global v => simp [opnd] at h
  | func k => simp [opnd] at h

theorem RD_nil {o : Ow} {m : Md} {p : List Nat} {n : Nat} {v : Value} (h : RD w G o m p (.sl n []) v) : n = 0 ∧ ∃ a cap, v = .slice a 0 cap ∧ (m.isOwn = true → cap = 0) := by
  rw [RD] at h
  rcases h with ⟨_, h0, h1⟩ | ⟨h1, _⟩
  · exact ⟨h0, h1⟩
  · exact absurd rfl h1

theorem ok_append (h : Sim d N G σ a.tmps w) {t' : Nat} (hd : (some t').all (· < N) = true) (x y : Operand) (args : Array Operand) (argTypes : Array TypeId) (hargs : args.toList = [x, y]) {t : Nat} (ht0 : argTypes[0]? = some t)
    (ht1 : argTypes[1]? = some t) (hts : argTypes.size = 2) {i ei : TI} {e : Nat} (hi : ti g.P t = some i) (he : i.elem = some e) (hei : ti g.P e = some ei) (hnd : nodup (tmpsOf [x, y]) = true)
    {m my m' : Md} {n ny : Nat} {cs csy : List D} (hx : opnd σ.env x = .one (.l m n cs)) (hy : opnd σ.env y = .one (.l my ny csy)) (hm : m = .own ∨ m = .top)
    (hb : cs.length = n * ei.size ∧ csy.length = ny * ei.size ∧ 0 < ei.size ∧ ei.zero.length = ei.size ∧ (n + ny) * (ei.bytes + 1) ≤ maxBytes) (hm' : appMode m my cs csy = some m') :
    OpOK g.P d N G w a { dst := some t', op := .call { callee := .builtin .append, args, argTypes }, type := ty, pos, after, guard } { σ with env := kil (kil σ.env x) y } (.one (.l m' (n + ny) (cs ++ csy))) := by
  obtain ⟨hlx, hly, hpos, hzl, hbytes⟩ := hb
  obtain ⟨info, h1, h2, h2b, z, h3, h4⟩ := ti_info hei
  have hu := ti_elem hi he
  have hargs' : args = #[x, y] := by apply Array.ext'; simpa using hargs
  have hat : argTypes = #[t, t] := by
    apply Array.ext
    · simpa using hts
    · intro k hk _
      have hk2 : k < 2 := by omega
      match k, hk2 with
      | 0, _ => have := ht0; rw [Array.getElem?_eq_getElem hk] at this; simpa using this
      | 1, _ => have := ht1; rw [Array.getElem?_eq_getElem hk] at this; simpa using this
  subst hargs' hat
  have hvx : RD w G (owOf d x) m [] (.sl n cs) (a.eval x) := by have := h.opnd x; rw [hx] at this; exact this
  have hvy : RD w G (owOf d y) my [] (.sl ny csy) (a.eval y) := by have := h.opnd y; rw [hy] at this; exact this
  have hexec : ∀ (r : Value) (w' : World), (Builtin.append_ #[t, t] ty #[a.eval x, a.eval y]).run g.P w = .ok r w' →
      (execOp a.eval { dst := some t', op := .call { callee := .builtin .append, args := #[x, y], argTypes := #[t, t] }, type := ty, pos, after, guard }).run g.P w = .ok (.value r) w' := by
    intro r w' hr
    simp [execOp, resolve, invoke, builtin, hr]
  -- different slots
  have hne : ∀ tx ty', x = .tmp tx → y = .tmp ty' → tx ≠ ty' := by
    rintro tx ty' rfl rfl rfl
    simp [tmpsOf_tmp, tmpsOf_nil, nodup] at hnd
  -- the account with tags moved
  have ren : ∀ inp, Sim d N (Ev.ren G (appT d (tmpOf x) (tmpOf y) (.slot d t') cs.length inp)) { σ with env := upd (kil (kil σ.env x) y) t' .dead } a.tmps w := by
    intro inp
    refine h.ren (appT_ok (tmpOf x) (tmpOf y) (.slot d t') cs.length inp (Nat.le_refl d)) _ _ (fun t2 => ?_) (Sim.memSame _ fun k q => rfl) ?_
    · by_cases h1 : t2 = t'
      · left; simp [upd, h1]
      · by_cases h2 : tmpOf x = some t2
        · left
          have := owner_tmp h2
          subst this
          cases y <;> simp [kil, upd, h1]
        · by_cases h3 : tmpOf y = some t2
          · left
            have := owner_tmp h3
            subst this
            simp [kil, upd, h1]
          · right
            refine ⟨?_, fun q => ?_⟩
            · have hx2 : ∀ env, kil env x t2 = env t2 := by
                intro env
                cases x with
                | tmp tx => simp only [tmpOf, Option.some.injEq] at h2; simp [kil, upd, Ne.symm h2]
                | _ => rfl
              have hy2 : ∀ env, kil env y t2 = env t2 := by
                intro env
                cases y with
                | tmp tx => simp only [tmpOf, Option.some.injEq] at h3; simp [kil, upd, Ne.symm h3]
                | _ => rfl
              simp only [upd, h1, if_false]
              rw [hy2, hx2]
            · simp only [appT, true_and]
              rw [if_neg h2, if_neg h3]
    · intro o p k q hq
      left
      cases o with
      | cell k3 => simp only [appT, Tag.at.injEq, Ow.cell.injEq] at hq; exact ⟨k3, rfl, hq.1⟩
      | ret => simp [appT] at hq
      | slot d' t2 =>
        simp only [appT] at hq
        split at hq
        · cases p
          · cases inp <;> simp at hq
          · simp at hq
        · split at hq
          · cases p <;> simp at hq
          · simp at hq
  have frm : ∀ inp, Frm d G w (Ev.ren G (appT d (tmpOf x) (tmpOf y) (.slot d t') cs.length inp)) w := fun inp => (appT_ok (tmpOf x) (tmpOf y) (.slot d t') cs.length inp (Nat.le_refl d)).frm G w
  -- elements, under the new account
  have ebase : ∀ inp (j : Nat) xx v, cs[j]? = some xx → RD w G (owOf d x) m.elem [j] xx v → RD w (Ev.ren G (appT d (tmpOf x) (tmpOf y) (.slot d t') cs.length inp)) (.slot d t') m'.elem [j] xx v := by
    intro inp j xx v hj hr
    rcases slice_opnd hx with ⟨tx, rfl⟩ | ⟨_, h0⟩
    · have hr' := ((appT_ok (d := d) (tmpOf (.tmp tx)) (tmpOf y) (.slot d t') cs.length inp (Nat.le_refl d)).hands G w (o := .slot d tx) (o' := .slot d t') (p := [j]) (p' := [j]) fun q => by simp [appT, tmpOf]).toHand.rd hr
      by_cases hmm : m' = m
      · rw [hmm]; exact hr'
      · -- m' is 'top', and the base holds scalars alone
        have hsc : cs.all D.isSc = true := by
          unfold appMode at hm'
          split at hm'
          · cases hm'; exact absurd rfl hmm
          · split at hm'
            · split at hm'
              · rename_i hmo; cases hm'; exact absurd hmo.symm hmm
              · cases hm'
            · split at hm'
              · rename_i hor
                cases hm'
                rcases hor with hmt | hsc
                · exact absurd hmt.symm hmm
                · exact hsc
              · cases hm'
            · cases hm'
        obtain ⟨u, rfl⟩ := all_isSc hsc hj
        rw [RD] at hr' ⊢
        exact hr'
    · rw [h0] at hj; simp at hj
  have eadd : ∀ inp (j : Nat) xx v, csy[j]? = some xx → RD w G (owOf d y) my.elem [j] xx v → RD w (Ev.ren G (appT d (tmpOf x) (tmpOf y) (.slot d t') cs.length inp)) (.slot d t') m'.elem [cs.length + j] xx v := by
    intro inp j xx v hj hr
    rcases slice_opnd hy with ⟨ty', rfl⟩ | ⟨_, h0⟩
    · by_cases hsc : csy.all D.isSc = true
      · obtain ⟨u, rfl⟩ := all_isSc hsc hj
        rw [RD] at hr ⊢
        exact hr
      · have hφ := appT_ok (d := d) (tmpOf x) (tmpOf (.tmp ty')) (.slot d t') cs.length inp (Nat.le_refl d)
        unfold appMode at hm'
        rw [if_neg hsc] at hm'
        split at hm'
        · split at hm'
          · cases hm'
            refine (hφ.hands G w (o := .slot d ty') (o' := .slot d t') (p := [j]) (p' := [cs.length + j]) fun q => ?_).toHand.rd hr
            have hxt : tmpOf x ≠ some ty' := by
              intro hxt
              have := owner_tmp hxt
              exact hne _ _ this rfl rfl
            simp only [appT, true_and]
            rw [if_neg hxt]
            simp [tmpOf]
          · cases hm'
        · split at hm'
          · cases hm'
            exact RD_any (o := .ret) (p := []) rfl ((hφ.hands G w (o := .ret) (o' := .ret) (p := []) (p' := []) fun q => rfl).toHand.rd (RD_any (o' := .ret) (p' := []) rfl hr))
          · cases hm'
        · cases hm'
    · rw [h0] at hj; simp at hj
  have hm2 : m'.isOwn = true := by
    unfold appMode at hm'
    split at hm'
    · cases hm'; rcases hm with rfl | rfl <;> rfl
    · split at hm'
      · split at hm' <;> first | (cases hm'; rfl) | cases hm'
      · split at hm' <;> first | (cases hm'; rfl) | cases hm'
      · cases hm'
  have hmo : m.isOwn = true := by rcases hm with rfl | rfl <;> rfl
  have hlen : (cs ++ csy).length = (n + ny) * ei.size := by rw [List.length_append, hlx, hly, Nat.add_mul]
  -- the new slot's value put
  have put : ∀ (G2 : Gh) (w2 : World) (r : Value), Sim d N G2 { σ with env := upd (kil (kil σ.env x) y) t' .dead } a.tmps w2 → RD w2 G2 (.slot d t') m' [] (.sl (n + ny) (cs ++ csy)) r →
      Sim d N G2 { σ with env := putD (kil (kil σ.env x) y) (some t') (.one (.l m' (n + ny) (cs ++ csy))) } (a.put (some t') r).tmps w2 := by
    intro G2 w2 r hS hr
    have := hS.put (dst := some t') hd (v := .one (.l m' (n + ny) (cs ++ csy))) (r := r) (fun t ht => by cases ht; exact hr)
    simpa [putD, upd_upd] using this
  by_cases hny : ny = 0
  · -- nothing is appended
    subst hny
    have hcy : csy = [] := List.eq_nil_of_length_eq_zero (by simpa using hly)
    subst hcy
    obtain ⟨_, ay, cy, hy', _⟩ := RD_nil hvy
    have hmm : m' = m := by unfold appMode at hm'; simpa using hm'.symm
    obtain ⟨ad, cap, hva, hnc⟩ : ∃ ad cap, a.eval x = .slice ad n cap ∧ n ≤ cap := by
      have hv2 := hvx
      rw [RD] at hv2
      rcases hv2 with ⟨_, h0, ad, cap, hv', _⟩ | ⟨_, _, b, off, cap, hv', hc, _⟩
      · exact ⟨ad, cap, by rw [hv', h0], by omega⟩
      · exact ⟨_, cap, hv', hc⟩
    have hrun := run_append_zero (w := w) (P := g.P) t ty e info hu h1 ad n cap hnc ay cy
    rw [← hva, ← hy'] at hrun
    refine ⟨_, w, _, .inl (hexec _ _ hrun), frm true, put _ _ _ (ren true) ?_⟩
    rw [hmm]
    simp only [Nat.add_zero, List.append_nil]
    rcases slice_opnd hx with ⟨tx, rfl⟩ | ⟨h0, h00⟩
    · refine ((appT_ok (d := d) (tmpOf (.tmp tx)) (tmpOf y) (.slot d t') cs.length true (Nat.le_refl d)).hands G w (o := .slot d tx) (o' := .slot d t') (p := []) (p' := []) fun q => ?_).toHand.rd hvx
      cases q <;> simp [appT, tmpOf]
    · subst h0 h00
      obtain ⟨_, ax, cx, hx', hc0⟩ := RD_nil hvx
      rw [RD]
      exact .inl ⟨rfl, rfl, ax, cx, hx', hc0⟩
  · -- something is
    have hcyne : csy ≠ [] := by
      rintro rfl
      rcases Nat.mul_eq_zero.1 hly.symm with hx0 | hx0 <;> omega
    have hvy2 := hvy
    rw [RD] at hvy2
    rcases hvy2 with ⟨h0, _⟩ | ⟨_, _, by', offy, capy, hy', hncy, hnoy, hsy⟩
    · exact absurd h0 hcyne
    obtain ⟨news, hnl, hncell, hnrd⟩ := RDs_vals2 hsy
    have hnews : ∀ j u, news[j]? = some u → w.cell? ((⟨by', offy, none⟩ : Addr).add j) = some u := fun j u hj => by
      rw [Addr.add_lit]; have := hncell j u hj; rwa [Nat.zero_add] at this
    have hnl' : news.length = ny * info.size := by rw [hnl, hly, h2]
    have hone : ∀ u ∈ news, u.oneCell' = true := by
      intro u hu'
      obtain ⟨j, hj⟩ := List.getElem?_of_mem hu'
      have hjl : j < csy.length := by
        rcases Nat.lt_or_ge j csy.length with hlt | hge
        · exact hlt
        · rw [List.getElem?_eq_none (by rw [hnl]; exact hge)] at hj; cases hj
      obtain ⟨v, hv, hr⟩ := hnrd j csy[j] (List.getElem?_eq_getElem hjl)
      rw [hj] at hv
      cases hv
      exact RD_oneCell hr
    have hbd : (n + ny) * ei.bytes + (n + ny) ≤ 70368744177664 := by
      have := hbytes
      rw [Nat.mul_add, Nat.mul_one] at this
      exact this
    have h63 : ((n + ny : Nat) : Int) ≤ 9223372036854775807 := by
      have : n + ny ≤ 70368744177664 := by omega
      omega
    have hfit : (n + ny) * info.bytes ≤ 140737488355328 := by rw [h2b]; omega
    -- what a new row gives
    have fresh : ∀ (olds : List Value) (cap : Nat), olds.length = cs.length → n + ny ≤ cap → (∀ (j : Nat) xx, cs[j]? = some xx → ∃ v, olds[j]? = some v ∧ RD w G (owOf d x) m.elem [j] xx v) →
        ∃ G2, Frm d G w G2 (w.drew.alloc (.cells (olds.toArray ++ news.toArray ++ Builtin.zeroCells z.cells (cap - (n + ny))) e)) ∧
          Sim d N G2 { σ with env := putD (kil (kil σ.env x) y) (some t') (.one (.l m' (n + ny) (cs ++ csy))) } (a.put (some t') (.slice (some ⟨w.heap.size, 0, none⟩) (n + ny) cap)).tmps
            (w.drew.alloc (.cells (olds.toArray ++ news.toArray ++ Builtin.zeroCells z.cells (cap - (n + ny))) e)) := by
      intro olds cap hol hcap hold
      obtain ⟨hS1, hF1⟩ := (ren false).sameHeap (w' := w.drew) rfl ⟨rfl, rfl, rfl⟩
      obtain ⟨hS2, hF2⟩ := hS1.newRow (olds.toArray ++ news.toArray ++ Builtin.zeroCells z.cells (cap - (n + ny))) e t' (cs ++ csy).length
      have hH := newG_hand (Ev.ren G (appT d (tmpOf x) (tmpOf y) (.slot d t') cs.length false)) w.drew (.cells (olds.toArray ++ news.toArray ++ Builtin.zeroCells z.cells (cap - (n + ny))) e) (some (.at (.slot d t') [])) (cs ++ csy).length G.β G.cap G.live (fun k hk => ⟨hk, rfl, rfl⟩)
      refine ⟨_, ((frm false).trans hF1).trans hF2, put _ _ _ hS2 ?_⟩
      have hzs : z.cells.size = ei.size := by rw [← hzl, h4, Array.length_toList]
      refine RD_newRow (es := ei.size) hm2 (heap_new w.drew _) (by show upd _ _ _ _ = _; simp [upd]) (by show upd _ _ _ _ = _; simp [upd]) hlen hpos hcap ?_ (fun h0 => by omega) fun j xx hj => ?_
      · simp only [Array.size_append, List.size_toArray, size_zeroCells, hol, hlx, hnl', h2, hzs, ← Nat.add_mul]
        exact Nat.mul_le_mul_right _ (by omega)
      · have hjl : j < (cs ++ csy).length := by
          rcases Nat.lt_or_ge j (cs ++ csy).length with hlt | hge
          · exact hlt
          · rw [List.getElem?_eq_none hge] at hj; cases hj
        rw [List.getElem?_append] at hj
        split at hj
        · rename_i hjc
          obtain ⟨v, hv, hr⟩ := hold j xx hj
          refine ⟨v, ?_, (hH (.slot d t') [j]).toHand.rd (RD_sameHeap (w := w) (w' := w.drew) rfl (ebase false j xx v hj hr))⟩
          have hj1 : j < olds.toArray.size := by simp only [List.size_toArray, hol]; exact hjc
          rw [Array.getElem?_append, if_pos (by simp only [Array.size_append, List.size_toArray] at *; omega), Array.getElem?_append, if_pos hj1]
          simpa using hv
        · rename_i hjc
          obtain ⟨v, hv, hr⟩ := hnrd (j - cs.length) xx hj
          have hr2 := eadd false (j - cs.length) xx v hj (by simpa using hr)
          rw [show cs.length + (j - cs.length) = j by omega] at hr2
          refine ⟨v, ?_, (hH (.slot d t') [j]).toHand.rd (RD_sameHeap (w := w) (w' := w.drew) rfl hr2)⟩
          rw [List.length_append] at hjl
          rw [Array.getElem?_append, if_pos (by simp only [Array.size_append, List.size_toArray, hol, hnl]; omega), Array.getElem?_append, if_neg (by simp only [List.size_toArray, hol]; omega)]
          simp only [List.size_toArray, hol, List.getElem?_toArray]
          exact hv
    by_cases hn : n = 0
    · -- onto an empty one
      subst hn
      have hcx : cs = [] := List.eq_nil_of_length_eq_zero (by simpa using hlx)
      subst hcx
      obtain ⟨_, ax, cx, hx', hc0⟩ := RD_nil hvx
      have hcx0 := hc0 hmo
      subst hcx0
      obtain ⟨G2, hF, hS⟩ := fresh [] (grownCap w (0 + ny) 0 e) rfl (grownCap_ge _ _ _ _) (fun j xx hj => by simp at hj)
      cases ax with
      | none =>
        have hr := run_append_nil (P := g.P) w t ty e info z hu h1 h3 ⟨by', offy, none⟩ ny capy news hnl' hnews (by omega) (by omega) (by simp only [Nat.zero_add] at hfit; omega)
        rw [← hx', ← hy'] at hr
        refine ⟨_, _, G2, .inl (hexec _ _ hr), ?_, ?_⟩
        · simpa using hF
        · simpa using hS
      | some ad =>
        have hr := run_append_grow (P := g.P) w t ty e info z hu h1 h3 ad 0 0 [] (by simp) (fun j v hj => by simp at hj) ⟨by', offy, none⟩ ny capy news hnl' hnews (by omega) h63 (growslice_fits (by omega) hfit)
        rw [← hx', ← hy'] at hr
        exact ⟨_, _, G2, .inl (hexec _ _ hr), hF, hS⟩
    · have hcxne : cs ≠ [] := by
        rintro rfl
        rcases Nat.mul_eq_zero.1 hlx.symm with hx0 | hx0 <;> omega
      have hvx2 := hvx
      rw [RD] at hvx2
      rcases hvx2 with ⟨h0, _⟩ | ⟨_, _, bx, offx, capx, hx', hncx, hnox, hsx⟩
      · exact absurd h0 hcxne
      obtain ⟨olds, hol, hocell, hord⟩ := RDs_vals2 hsx
      obtain ⟨tx, rfl⟩ : ∃ tx, x = .tmp tx := by
        rcases slice_opnd hx with h | ⟨h0, _⟩
        · exact h
        · exact absurd h0 hn
      by_cases hroom : n + ny ≤ capx
      · -- in its place
        have hno2 : G.own bx = some (.at (.slot d tx) []) ∧ offx + cs.length = G.use bx ∧ offx = 0 ∧ ∃ arr e, w.heap[bx]? = some (.cells arr e (0, 0)) ∧ ∀ sz, cs.length = n * sz → offx + capx * sz ≤ arr.size := by
          rcases hm with rfl | rfl <;> exact hnox
        obtain ⟨hown, huse, hoff0, arr, eb, harr, hroom2⟩ := hno2
        have hsz := hroom2 ei.size hlx
        have hfit2 : offx + n * info.size + news.length ≤ arr.size := by
          rw [hnl', h2, Nat.add_assoc, ← Nat.add_mul]
          have := Nat.mul_le_mul_right ei.size hroom
          omega
        have hr := run_append_in (w := w) (P := g.P) t ty e info hu h1 bx offx n capx arr eb harr ⟨by', offy, none⟩ ny capy news hnl' hnews hone hroom hfit2
        rw [← hx', ← hy'] at hr
        have hS1 := ren true
        have hown1 : (Ev.ren G (appT d (tmpOf (.tmp tx)) (tmpOf y) (.slot d t') cs.length true)).own bx = some (.at (.slot d t') []) := by
          rw [ren_own, hown]
          simp [appT, tmpOf]
        have hidx : offx + n * info.size = offx + cs.length := by rw [h2, hlx]
        have hspl : offx + n * info.size + news.length ≤ arr.toList.length := by rw [Array.length_toList]; exact hfit2
        have hget := splice_get arr.toList (offx + n * info.size) news hspl
        obtain ⟨hS2, hF2, hH2⟩ := hS1.grow (t := t') (b := bx) (arr := arr) (arr' := (splice arr.toList (offx + n * info.size) news).toArray) (e := eb) (u := offx + (cs ++ csy).length) (by simp [upd]) hown1 harr
          (by show G.use bx ≤ _; rw [← huse, List.length_append]; omega) (fun off hoff => by
            have hoff' : off < offx + cs.length := by rw [huse]; exact hoff
            rw [List.getElem?_toArray, hget off, if_neg (by omega), Array.getElem?_toList])
        refine ⟨_, _, _, .inl (hexec _ _ hr), (frm true).trans hF2, put _ _ _ hS2 ?_⟩
        have hlen2 := setRow_heap w bx arr (splice arr.toList (offx + n * info.size) news).toArray eb (0, 0) harr
        have hsize2 : (splice arr.toList (offx + n * info.size) news).toArray.size = arr.size := by rw [List.size_toArray, splice_length _ _ _ hspl, Array.length_toList]
        rw [RD]
        right
        refine ⟨by simp [hcxne], by omega, bx, offx, capx, rfl, hroom, ?_, RDs_of fun j xx hj => ?_⟩
        · have hh : (Ev.ren G (appT d (tmpOf (.tmp tx)) (tmpOf y) (.slot d t') cs.length true)).own bx = some (.at (.slot d t') []) ∧ offx + (cs ++ csy).length = upd G.use bx (offx + (cs ++ csy).length) bx ∧ offx = 0 ∧
              ∃ arr2 e2, (w.setRow bx (splice arr.toList (offx + n * info.size) news).toArray).heap[bx]? = some (.cells arr2 e2 (0, 0)) ∧ ∀ sz, (cs ++ csy).length = (n + ny) * sz → offx + capx * sz ≤ arr2.size := by
            refine ⟨hown1, by simp [upd], hoff0, _, eb, hlen2, fun sz hsz2 => ?_⟩
            have : sz = ei.size := by
              rw [hlen] at hsz2
              exact (Nat.eq_of_mul_eq_mul_left (by omega) hsz2).symm
            subst this
            rw [hsize2]
            exact hsz
          cases m' <;> first | exact hh | simp [Md.isOwn] at hm2
        · have hjl : j < (cs ++ csy).length := by
            rcases Nat.lt_or_ge j (cs ++ csy).length with hlt | hge
            · exact hlt
            · rw [List.getElem?_eq_none hge] at hj; cases hj
          rw [List.length_append] at hjl
          have hhand := hH2 (.slot d t') [j] (by rintro q ⟨_, h0⟩; cases h0)
          rw [List.getElem?_append] at hj
          rw [cell_setRow_same w bx (offx + (0 + j)) arr _ eb (0, 0) harr, List.getElem?_toArray, hget]
          split at hj
          · rename_i hjc
            obtain ⟨v, hv, hr⟩ := hord j xx hj
            refine ⟨v, ?_, by simpa using hhand.toHand.rd (ebase true j xx v hj (by simpa using hr))⟩
            rw [if_neg (by omega), Array.getElem?_toList]
            have := hocell j v hv
            rw [arr_cell harr] at this
            exact this
          · rename_i hjc
            obtain ⟨v, hv, hr⟩ := hnrd (j - cs.length) xx hj
            have hr2 := eadd true (j - cs.length) xx v hj (by simpa using hr)
            rw [show cs.length + (j - cs.length) = j by omega] at hr2
            refine ⟨v, ?_, by simpa using hhand.toHand.rd hr2⟩
            rw [if_pos (by rw [hnl]; omega), ← hv]
            congr 1
            omega
      · have hr := run_append_grow (P := g.P) w t ty e info z hu h1 h3 ⟨bx, offx, none⟩ n capx olds (by rw [hol, hlx, h2]) (fun j v hj => by rw [Addr.add_lit]; have := hocell j v hj; rwa [Nat.zero_add] at this)
          ⟨by', offy, none⟩ ny capy news hnl' hnews (by omega) h63 (growslice_fits (by omega) hfit)
        rw [← hx', ← hy'] at hr
        obtain ⟨G2, hF, hS⟩ := fresh olds (grownCap w (n + ny) capx e) hol (grownCap_ge _ _ _ _) (fun j xx hj => by obtain ⟨v, hv, hr⟩ := hord j xx hj; exact ⟨v, hv, by simpa using hr⟩)
        exact ⟨_, _, G2, .inl (hexec _ _ hr), hF, hS⟩

end
end Go.Ev
