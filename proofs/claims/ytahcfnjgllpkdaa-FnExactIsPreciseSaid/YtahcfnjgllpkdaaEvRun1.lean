import Derived.Test.YtahcfnjgllpkdaaEvOps8
set_option linter.unusedSimpArgs false
set_option linter.unusedVariables false
set_option linter.unnecessarySimpa false
namespace Go.Ev
section
variable {g : Cfg} {d N : Nat} {G : Gh} {σ σ' : St} {w : World} {a : Act}

theorem ok_field {dst : Option Nat} {ty : TypeId} {pos : String} {after : Array Edge} {guard : Option (Nat × Bool)} (h : Sim d N G σ a.tmps w) (hd : dst.all (· < N) = true) (s : TypeId) (x : Operand) (k : Nat) {i fi : TI} {fd : Nat × Nat} (hi : ti g.P s = some i) (hf : i.flds[k]? = some fd)
    (hfi : ti g.P fd.2 = some fi) {cs sg : List C} (hx : opnd σ.env x = .ag cs) (hs : seg cs fd.1 fi.size = some sg) {v : AV} (hv : mkAV fi.agg (sg.map C.copy) = some v) :
    OpOK g.P d N G w a { dst, op := .field s x k, type := ty, pos, after, guard } σ v := by
  have hxv := h.opnd x
  rw [hx] at hxv
  obtain ⟨vs, hva, hr⟩ := hxv
  obtain ⟨fs, fl, hu, hfs, h1, h2⟩ := ti_fld hi hf
  have hseg := RCs_seg hr hs
  obtain ⟨hle, hsl, _⟩ := seg_get hs
  have hlen : ((vs.toList.drop fd.1).take fi.size).length = fi.size := by rw [hseg.1, hsl]
  have hsz : vs.size = cs.length := by rw [← Array.length_toList]; exact hr.1
  have hrun : (execOp a.eval { dst, op := .field s x k, type := ty, pos, after, guard }).run g.P w = .ok (.value (if fi.agg then .agg ((vs.toList.drop fd.1).take fi.size).toArray else ((vs.toList.drop fd.1).take fi.size)[0]?.getD undef)) w := by
    have hp : (part fl.type vs fl.offset).run g.P w = .ok (if fi.agg then .agg ((vs.toList.drop fd.1).take fi.size).toArray else ((vs.toList.drop fd.1).take fi.size)[0]?.getD undef) w := by
      rw [← h2] at hfi
      simp only [part, Sem.run_bind, run_isAgg hfi, Result.andThen_ok, Sem.run_ite]
      cases hag : fi.agg with
      | true =>
        simp only [if_true, ti_size hfi, Result.andThen_ok, Sem.run_pure, h1]
        congr 2
        apply Array.ext'
        simp [Nat.add_sub_cancel_left]
      | false =>
        have hs1 : fi.size = 1 := by rw [← hsl]; have := mkAV_len hv hag; rwa [List.length_map] at this
        have hlt : fd.1 < vs.size := by omega
        have e1 : ((vs.toList.drop fd.1).take fi.size)[0]? = some vs[fd.1] := by
          rw [hs1, List.getElem?_take, if_pos (by omega), List.getElem?_drop, Array.getElem?_toList]
          simp [hlt]
        simp [h1, e1, hlt]
    simp only [execOp, hva, Instr.field, Sem.run_bind, run_underlying hu, Result.andThen_ok, hfs, asAgg, Sem.run_pure, hp]
  refine OpOK.mk hd hrun (Frm.refl _ _ _) h fun t' _ => ?_
  refine (mkAV_ok hv (vs := (vs.toList.drop fd.1).take fi.size) (fun _ => RCs_copy hseg) (fun _ c hcs => ?_)).1
  have := RCs_copy (o' := .slot d t') (p' := []) (i' := 0) hseg
  rw [hcs] at this
  obtain ⟨y, hy, hr⟩ := RCs_one this
  refine ⟨y, hy, ?_⟩
  obtain ⟨c0, hc0⟩ : ∃ c0, sg = [c0] := by
    have hl1 : sg.length = 1 := by have := congrArg List.length hcs; simpa using this
    exact List.length_eq_one_iff.1 hl1
  subst hc0
  simp only [List.map_cons, List.map_nil, List.cons.injEq, and_true] at hcs
  subst hcs
  obtain ⟨y', hy', hr'⟩ := RCs_one hseg
  rw [hy] at hy'
  cases hy'
  exact RC_copy hr'

theorem opE_ok (h : Sim d N G σ a.tmps w) {f : Nat} {o : Oper} (hd : o.dst.all (· < N) = true) {v : AV} (ho : opE g d f o σ = some (v, σ')) : OpOK g.P d N G w a o σ' v := by
  obtain ⟨dst, op, ty, pos, after, guard⟩ := o
  simp only at hd
  have scal : ∀ {u : Value}, (∀ cs b, op ≠ .select cs b) → (scalarOp g.P σ.env { dst, op, type := ty, pos, after, guard } >>= fun v => some (AV.one (.s v), σ)) = some (v, σ') →
      OpOK g.P d N G w a { dst, op, type := ty, pos, after, guard } σ' v := by
    intro _ hs hq
    simp only [bind, Option.bind_eq_some_iff, Option.some.injEq, Prod.mk.injEq] at hq
    obtain ⟨u, hu, rfl, rfl⟩ := hq
    exact ok_scalar h hd hs hu
  cases op with
  | move x =>
    simp only [opE, Option.some.injEq] at ho
    split at ho
    · cases ho; exact ok_take h hd x _ (.inl rfl)
    · cases ho; exact ok_move h hd x
  | assign x =>
    simp only [opE, Option.some.injEq, Prod.mk.injEq] at ho
    obtain ⟨rfl, rfl⟩ := ho
    exact ok_take h hd x _ (.inr rfl)
  | pick c x y =>
    simp only [opE, bind, Option.bind_eq_some_iff, Option.some.injEq, Prod.mk.injEq] at ho
    obtain ⟨b, hb, rfl, rfl⟩ := ho
    exact ok_pick h hd c x y hb
  | extract x i =>
    simp only [opE] at ho
    cases x with
    | tmp t =>
      simp only at ho
      split at ho
      · rename_i l hl
        simp only [bind, Option.bind_eq_some_iff, Option.some.injEq, Prod.mk.injEq] at ho
        obtain ⟨⟨ag, cs⟩, h1, v', h2, rfl, rfl⟩ := ho
        exact ok_extract h hd t i hl h1 h2
      · cases ho
    | _ => cases ho
  | alloc e =>
    simp only [opE, bind, Option.bind_eq_some_iff] at ho
    obtain ⟨i, hi, t, ht, ho⟩ := ho
    split at ho
    · cases ho
    · rename_i hm
      simp only [Option.some.injEq, Prod.mk.injEq] at ho
      obtain ⟨rfl, rfl⟩ := ho
      subst ht
      exact ok_alloc h hd e hi (by simpa using hm)
  | box e x =>
    simp only [opE, bind, Option.bind_eq_some_iff] at ho
    obtain ⟨i, hi, t, ht, cs, hcs, ho⟩ := ho
    split at ho
    · cases ho
    · rename_i hm
      simp only [Option.some.injEq, Prod.mk.injEq] at ho
      obtain ⟨rfl, rfl⟩ := ho
      subst ht
      exact ok_box h hd e x hcs (by simpa using hm)
  | load t x =>
    simp only [opE, bind, Option.bind_eq_some_iff] at ho
    obtain ⟨i, hi, ho⟩ := ho
    split at ho
    · rename_i k off hx
      simp only [Option.bind_eq_some_iff] at ho
      obtain ⟨cs, hcs, sg, hsg, ho⟩ := ho
      split at ho
      · split at ho
        · cases ho
        · rename_i hkd
          simp only [Option.bind_eq_some_iff, Option.some.injEq, Prod.mk.injEq] at ho
          obtain ⟨v', hv, rfl, rfl⟩ := ho
          exact ok_loadTake h hd t x hi hx hcs (Decidable.not_not.1 hkd) hsg hv
      · split at ho
        · simp only [Option.bind_eq_some_iff, Option.some.injEq, Prod.mk.injEq] at ho
          obtain ⟨v', hv, rfl, rfl⟩ := ho
          exact ok_load h hd t x hi hx hcs hsg hv
        · cases ho
    · rename_i m cs ps hx
      simp only [Option.bind_eq_some_iff, Option.some.injEq, Prod.mk.injEq] at ho
      obtain ⟨sg, hsg, v', hv, rfl, rfl⟩ := ho
      exact ok_loadEp h hd t x hi hx hsg hv
    · cases ho
  | store t x y =>
    simp only [opE, bind, Option.bind_eq_some_iff] at ho
    obtain ⟨i, hi, ho⟩ := ho
    split at ho
    · rename_i k off hx
      simp only [Option.bind_eq_some_iff] at ho
      obtain ⟨cs, hcs, new, hnew, ho⟩ := ho
      split at ho
      · rename_i hc
        simp only [Option.some.injEq, Prod.mk.injEq] at ho
        obtain ⟨rfl, rfl⟩ := ho
        exact ok_store h hd t x y hi hx hcs hnew hc
      · cases ho
    · cases ho
  | nilCheck x =>
    simp only [opE] at ho
    split at ho
    · rename_i k off hx
      simp only [Option.some.injEq, Prod.mk.injEq] at ho
      obtain ⟨rfl, rfl⟩ := ho
      exact ok_nilCheck h hd x hx (.inl ⟨_, _, rfl⟩)
    · rename_i m cs ps hx
      simp only [Option.some.injEq, Prod.mk.injEq] at ho
      obtain ⟨rfl, rfl⟩ := ho
      exact ok_nilCheck h hd x hx (.inr ⟨_, _, _, rfl⟩)
    · cases ho
  | fieldAddr s x k =>
    simp only [opE, bind, Option.bind_eq_some_iff] at ho
    obtain ⟨i, hi, fd, hfd, fi, hfi, ho⟩ := ho
    split at ho
    · cases ho
    · rename_i hz
      obtain ⟨h1, h2⟩ := ok_fieldAddr (g := g) (ty := ty) (pos := pos) (after := after) (guard := guard) h hd s x k hi hfd hfi hz
      split at ho
      · rename_i key off hx
        simp only [Option.some.injEq, Prod.mk.injEq] at ho
        obtain ⟨rfl, rfl⟩ := ho
        exact h1 _ _ hx
      · rename_i m cs ps hx
        simp only [Option.some.injEq, Prod.mk.injEq] at ho
        obtain ⟨rfl, rfl⟩ := ho
        exact h2 _ _ _ hx
      · cases ho
  | field s x k =>
    simp only [opE, bind, Option.bind_eq_some_iff] at ho
    obtain ⟨i, hi, fd, hfd, fi, hfi, ho⟩ := ho
    split at ho
    · rename_i cs hx
      simp only [Option.bind_eq_some_iff, Option.some.injEq, Prod.mk.injEq] at ho
      obtain ⟨sg, hsg, v', hv, rfl, rfl⟩ := ho
      exact ok_field h hd s x k hi hfd hfi hx hsg hv
    · cases ho
  | indexAddr t x ix =>
    simp only [opE, bind, Option.bind_eq_some_iff] at ho
    obtain ⟨i, hi, e, he, ei, hei, n, hn, ho⟩ := ho
    split at ho
    · rename_i m len cs hx
      split at ho
      · rename_i hb
        simp only [Option.some.injEq, Prod.mk.injEq] at ho
        obtain ⟨rfl, rfl⟩ := ho
        exact ok_indexAddr h hd t x ix hi he hei hn hx hb
      · cases ho
    · rename_i k len sz hx
      split at ho
      · rename_i hb
        simp only [Option.some.injEq, Prod.mk.injEq] at ho
        obtain ⟨rfl, rfl⟩ := ho
        exact ok_indexAddrB h hd t x ix hi he hei hn hx hb
      · cases ho
    · cases ho
  | build t parts =>
    simp only [opE, bind, Option.bind_eq_some_iff] at ho
    obtain ⟨i, hi, ho⟩ := ho
    split at ho
    · cases ho
    · rename_i hn
      obtain ⟨ps, hps, ho⟩ := Option.bind_eq_some_iff.1 ho
      split at ho
      · cases ho
      · rename_i hfl
        simp only [Option.bind_eq_some_iff, Option.some.injEq, Prod.mk.injEq] at ho
        obtain ⟨pl, hpl, cs, hcs, rfl, rfl⟩ := ho
        exact ok_build h hd t parts hi (by simpa using hn) hps (by simpa using hfl) hpl hcs
  | buildSlice t len parts =>
    simp only [opE, bind, Option.bind_eq_some_iff] at ho
    obtain ⟨i, hi, e, he, ei, hei, ho⟩ := ho
    split at ho
    · cases ho
    · rename_i hlen
      split at ho
      · cases ho
      · rename_i hzl
        split at ho
        · cases ho
        · rename_i hn
          simp only [Option.bind_eq_some_iff, Option.some.injEq, Prod.mk.injEq] at ho
          obtain ⟨ps, hps, cs, hcs, m, hm, ds, hds, rfl, rfl⟩ := ho
          exact ok_buildSlice h hd t len parts hi he hei hlen hzl (by simpa using hn) hps hcs hm hds
  | slice t x lo hi' mx =>
    cases mx with
    | some _ => simp [opE] at ho
    | none =>
      simp only [opE, bind] at ho
      split at ho
      · rename_i m n cs hx
        simp only [Option.bind_eq_some_iff] at ho
        obtain ⟨i, hi, e, he, ei, hei, l, hl, hh, hhh, ho⟩ := ho
        split at ho
        · rename_i hb
          simp only [Option.some.injEq, Prod.mk.injEq] at ho
          obtain ⟨rfl, rfl⟩ := ho
          exact ok_slice h hd t x lo hi' hi he hei hx hl hhh hb
        · cases ho
      · exact scal (u := undef) (by simp) ho
  | makeFunc fn first caps =>
    cases fn with
    | func k =>
      simp only [opE] at ho
      split at ho
      · rename_i hf
        simp only [bind, Option.bind_eq_some_iff, Option.some.injEq, Prod.mk.injEq] at ho
        obtain ⟨cs, hcs, rfl, rfl⟩ := ho
        exact ok_makeFunc h hd k first caps hf hcs
      · cases ho
    | _ => simp [opE] at ho
  | makeSlice t l c =>
    simp only [opE, bind, Option.bind_eq_some_iff] at ho
    obtain ⟨i, hi, e, he, ei, hei, n, hn, cp, hcp, ho⟩ := ho
    split at ho
    · cases ho
    · rename_i hz
      split at ho
      · rename_i hb
        split at ho
        · simp only [Option.bind_eq_some_iff] at ho
          obtain ⟨t', rfl, ho⟩ := ho
          split at ho
          · cases ho
          · rename_i hk
            simp only [Option.some.injEq, Prod.mk.injEq] at ho
            obtain ⟨rfl, rfl⟩ := ho
            exact ok_makeSliceB h hd t l c hi he hei hn hcp hz hb (by simpa using hk)
        · simp only [Option.bind_eq_some_iff, Option.some.injEq, Prod.mk.injEq] at ho
          obtain ⟨zd, hzd, rfl, rfl⟩ := ho
          exact ok_makeSlice h hd t l c hi he hei hn hcp hz hb hzd
      · cases ho
  | binOp _ _ _ _ _ => exact scal (u := undef) (by simp) ho
  | unOp _ _ _ => exact scal (u := undef) (by simp) ho
  | convert _ _ _ => exact scal (u := undef) (by simp) ho
  | index _ _ _ => exact scal (u := undef) (by simp) ho
  | call c =>
    obtain ⟨callee, args, argTypes⟩ := c
    cases callee with
    | value x => simp [opE] at ho
    | invoke _ _ => simp [opE] at ho
    | builtin b =>
      by_cases hl : b = .len
      · subst hl
        simp only [opE] at ho
        split at ho
        · rename_i m n cs hx
          simp only [bind, Option.bind_eq_some_iff, Option.some.injEq, Prod.mk.injEq] at ho
          obtain ⟨t, ht, i, hi, e, he, rfl, rfl⟩ := ho
          have hx' : ∃ x, args.toList = [x] ∧ opnd σ.env x = .one (.l m n cs) := by
            cases hal : args.toList with
            | nil => rw [hal] at hx; simp at hx
            | cons x r =>
              rw [hal] at hx
              cases r with
              | nil => simp at hx; exact ⟨x, rfl, hx⟩
              | cons _ _ => simp at hx
          obtain ⟨x, hxl, hxo⟩ := hx'
          exact ok_len h hd x args argTypes hxl ht hi he hxo
        · rename_i k n sz hx
          simp only [bind, Option.bind_eq_some_iff, Option.some.injEq, Prod.mk.injEq] at ho
          obtain ⟨t, ht, i, hi, e, he, rfl, rfl⟩ := ho
          have hx' : ∃ x, args.toList = [x] ∧ opnd σ.env x = .one (.bs k n sz) := by
            cases hal : args.toList with
            | nil => rw [hal] at hx; simp at hx
            | cons x r =>
              rw [hal] at hx
              cases r with
              | nil => simp at hx; exact ⟨x, rfl, hx⟩
              | cons _ _ => simp at hx
          obtain ⟨x, hxl, hxo⟩ := hx'
          exact ok_lenB h hd x args argTypes hxl ht hi he hxo
        · exact scal (u := undef) (by simp) ho
      · by_cases ha : b = .append
        · subst ha
          simp only [opE] at ho
          split at ho
          · rename_i x y hargs
            simp only [bind, Option.bind_eq_some_iff] at ho
            obtain ⟨t, ht, i, hi, e, he, ei, hei, ho⟩ := ho
            split at ho
            · cases ho
            · rename_i hc
              simp only [not_or, Decidable.not_not] at hc
              obtain ⟨hc1, hc2, hc3, hc4⟩ := hc
              cases dst with
              | none => exact absurd rfl hc4
              | some t' =>
                split at ho
                · rename_i m n cs my ny csy hx hy
                  split at ho
                  · cases ho
                  · rename_i hm
                    split at ho
                    · cases ho
                    · rename_i hb
                      simp only [Option.bind_eq_some_iff, Option.some.injEq, Prod.mk.injEq] at ho
                      obtain ⟨m', hm', rfl, rfl⟩ := ho
                      exact ok_append h hd x y args argTypes hargs ht hc1 hc2 hi he hei (by simpa using hc3) hx hy (Decidable.not_not.1 hm) (Decidable.not_not.1 hb) hm'
                · cases ho
          · cases ho
        · have : opE g d f { dst := dst, op := Op.call { callee := Callee.builtin b, args := args, argTypes := argTypes }, type := ty, pos := pos, after := after, guard := guard } σ =
              (scalarOp g.P σ.env { dst := dst, op := Op.call { callee := Callee.builtin b, args := args, argTypes := argTypes }, type := ty, pos := pos, after := after, guard := guard } >>= fun v => some (AV.one (.s v), σ)) := by
            cases b <;> first | rfl | exact absurd rfl hl | exact absurd rfl ha
          rw [this] at ho
          exact scal (u := undef) (by simp) ho
  | _ => simp [opE] at ho

end
end Go.Ev
