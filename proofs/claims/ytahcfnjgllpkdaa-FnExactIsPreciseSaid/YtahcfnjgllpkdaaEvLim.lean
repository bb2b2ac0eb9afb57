import Derived.Test.YtahcfnjgllpkdaaEvDefs
set_option linter.unusedSimpArgs false
set_option linter.unusedVariables false
set_option linter.unnecessarySimpa false
namespace Go.Ev

def Le {α : Type} (x y : Option α) : Prop := ∀ a, x = some a → y = some a
theorem Le.refl {α : Type} (x : Option α) : Le x x := fun _ h => h
theorem Le.none {α : Type} (x : Option α) : Le Option.none x := fun _ h => by cases h
theorem Le.bind {α β : Type} {x y : Option α} {f h : α → Option β} (hx : Le x y) (hf : ∀ a, Le (f a) (h a)) : Le (x.bind f) (y.bind h) := by
  intro b hb
  cases hx' : x with
  | none => rw [hx'] at hb; cases hb
  | some a => rw [hx'] at hb; rw [hx a hx']; exact hf a b hb
theorem Le.map {α β : Type} {x y : Option α} {f : α → β} (hx : Le x y) : Le (x.map f) (y.map f) := by
  intro b hb
  cases hx' : x with
  | none => rw [hx'] at hb; cases hb
  | some a => rw [hx'] at hb; rw [hx a hx']; exact hb

theorem mono_all (g : Cfg) : ∀ n, (∀ d f args mem, Le (callN g n d f args mem) (callN g (n + 1) d f args mem)) ∧
    (∀ d f ops l σ, Le (evOps g n d f ops l σ) (evOps g (n + 1) d f ops l σ)) ∧ (∀ d f c σ, Le (evN g n d f c σ) (evN g (n + 1) d f c σ)) := by
  intro n
  induction n with
  | zero =>
    refine ⟨fun d f args mem => ?_, fun d f ops l σ => ?_, fun d f c σ => ?_⟩
    · intro a h; rw [callN] at h; cases h
    · intro a h; rw [evOps] at h; cases h
    · intro a h; rw [evN] at h; cases h
  | succ n ih =>
    obtain ⟨ih1, ih2, ih3⟩ := ih
    refine ⟨fun d f args mem => ?_, fun d f ops l σ => ?_, fun d f c σ => ?_⟩
    · rw [callN, callN]
      split
      · exact Le.refl _
      · split
        · split
          · split
            · exact Le.refl _
            · exact Le.bind (ih3 _ _ _ _) fun _ => Le.refl _
          · exact Le.refl _
        · exact Le.refl _
    · cases l with
      | nil => rw [evOps, evOps]; exact Le.refl _
      | cons o rest =>
        rw [evOps, evOps]
        refine Le.bind (Le.refl _) fun want => Le.bind ?_ fun σ' => ih2 _ _ _ _ _
        split
        · unfold stepW
          split
          · refine Le.bind (Le.refl _) fun kc => ?_
            exact Le.bind (ih1 _ _ _ _) fun _ => Le.refl _
          · exact Le.refl _
        · exact Le.refl _
    · cases c with
      | region id ops draw => rw [evN, evN]; exact Le.bind (Le.refl _) fun σ' => Le.bind (ih2 _ _ _ _ _) fun _ => Le.refl _
      | seq a b =>
        rw [evN, evN]
        refine Le.bind (ih3 _ _ _ _) fun o => ?_
        cases o with
        | norm σ' => exact ih3 _ _ _ _
        | exit id σ' => exact Le.refl _
        | ret σ' => exact Le.refl _
      | cond x a b =>
        rw [evN, evN]
        refine Le.bind (Le.refl _) fun t => ?_
        cases t with
        | true => exact ih3 _ _ _ _
        | false => exact ih3 _ _ _ _
      | block id a => rw [evN, evN]; exact Le.bind (ih3 _ _ _ _) fun o => Le.refl _
      | loop a =>
        rw [evN, evN]
        refine Le.bind (Le.refl _) fun k => Le.bind (ih3 _ _ _ _) fun o => ?_
        cases o with
        | norm σ' => exact ih3 _ _ _ _
        | exit id σ' => exact Le.refl _
        | ret σ' => exact Le.refl _
      | _ => rw [evN, evN]; exact Le.refl _

/-! the limit -/
open Classical in
noncomputable def lim {α : Type} (f : Nat → Option α) : Option α :=
  if h : ∃ n a, f n = some a then f (Classical.choose h) else none

def Mono {α : Type} (f : Nat → Option α) : Prop := ∀ n, Le (f n) (f (n + 1))
theorem Mono.le {α : Type} {f : Nat → Option α} (h : Mono f) : ∀ {m n : Nat}, m ≤ n → Le (f m) (f n) := by
  intro m n hmn
  induction hmn with
  | refl => exact Le.refl _
  | step _ ih => exact fun a ha => h _ a (ih a ha)

theorem lim_some {α : Type} {f : Nat → Option α} (h : Mono f) (a : α) : lim f = some a ↔ ∃ n, f n = some a := by
  unfold lim
  constructor
  · intro hl
    split at hl
    · exact ⟨_, hl⟩
    · cases hl
  · rintro ⟨n, hn⟩
    have hex : ∃ n a, f n = some a := ⟨n, a, hn⟩
    rw [dif_pos hex]
    obtain ⟨b, hb⟩ := Classical.choose_spec hex
    rw [hb]
    rcases Nat.le_total n (Classical.choose hex) with hle | hle
    · rw [h.le hle a hn] at hb; exact hb.symm
    · have := h.le hle b hb; rw [this] at hn; exact hn

theorem lim_ext {α : Type} {f : Nat → Option α} (h : Mono f) {x : Option α} (hx : ∀ a, (∃ n, f n = some a) ↔ x = some a) : lim f = x := by
  cases hl : lim f with
  | some a => exact ((hx a).1 ((lim_some h a).1 hl)).symm
  | none =>
    cases hx' : x with
    | none => rfl
    | some a => rw [(lim_some h a).2 ((hx a).2 hx')] at hl; cases hl

theorem lim_const {α : Type} {f : Nat → Option α} {x : Option α} (h0 : f 0 = none) (h : ∀ n, f (n + 1) = x) : lim f = x := by
  have hm : Mono f := fun n => by
    cases n with
    | zero => rw [h0]; exact Le.none _
    | succ n => rw [h, h]; exact Le.refl _
  refine lim_ext hm fun a => ⟨?_, fun ha => ⟨1, by rw [h, ha]⟩⟩
  rintro ⟨n, hn⟩
  cases n with
  | zero => rw [h0] at hn; cases hn
  | succ n => rw [← h n]; exact hn

/-- f (n+1) = (p n).bind (q n ·), both growing -/
theorem lim_bind {α β : Type} {f : Nat → Option β} {p : Nat → Option α} {q : Nat → α → Option β} (hf : Mono f) (h0 : f 0 = none) (h : ∀ n, f (n + 1) = (p n).bind (q n))
    (hp : Mono p) (hq : ∀ a, Mono fun n => q n a) : lim f = (lim p).bind fun a => lim fun n => q n a := by
  refine lim_ext hf fun b => ?_
  constructor
  · rintro ⟨n, hn⟩
    cases n with
    | zero => rw [h0] at hn; cases hn
    | succ n =>
      rw [h] at hn
      cases hpn : p n with
      | none => rw [hpn] at hn; cases hn
      | some a =>
        rw [hpn] at hn
        rw [(lim_some hp a).2 ⟨n, hpn⟩]
        exact (lim_some (hq a) b).2 ⟨n, hn⟩
  · intro hb
    cases hpl : lim p with
    | none => rw [hpl] at hb; cases hb
    | some a =>
      rw [hpl] at hb
      obtain ⟨n, hn⟩ := (lim_some hp a).1 hpl
      obtain ⟨m, hm⟩ := (lim_some (hq a) b).1 hb
      refine ⟨max n m + 1, ?_⟩
      rw [h, hp.le (Nat.le_max_left n m) a hn]
      exact (hq a).le (Nat.le_max_right n m) b hm

theorem lim_shift {α : Type} {f p : Nat → Option α} (h0 : f 0 = none) (h : ∀ n, f (n + 1) = p n) (hp : Mono p) : lim f = lim p := by
  have hf : Mono f := fun n => by
    cases n with
    | zero => rw [h0]; exact Le.none _
    | succ n => rw [h, h]; exact hp n
  refine lim_ext hf fun a => ?_
  rw [lim_some hp a]
  constructor
  · rintro ⟨n, hn⟩
    cases n with
    | zero => rw [h0] at hn; cases hn
    | succ n => exact ⟨n, by rw [← h]; exact hn⟩
  · rintro ⟨n, hn⟩; exact ⟨n + 1, by rw [h]; exact hn⟩

theorem mono_const {α : Type} (x : Option α) : Mono fun _ => x := fun _ => Le.refl _

abbrev Mem := Key → Option (List C)

noncomputable def callo (g : Cfg) (d f : Nat) (args : List AV) (mem : Mem) : Option (AV × Mem) := lim fun n => callN g n d f args mem
noncomputable def opso (g : Cfg) (d f : Nat) (ops : Array Oper) (l : List Oper) (σ : St) : Option St := lim fun n => evOps g n d f ops l σ
noncomputable def evo (g : Cfg) (d f : Nat) (c : Code) (σ : St) : Option Out := lim fun n => evN g n d f c σ

theorem mono_call (g : Cfg) (d f : Nat) (args : List AV) (mem : Mem) : Mono fun n => callN g n d f args mem := fun n => (mono_all g n).1 d f args mem
theorem mono_ops (g : Cfg) (d f : Nat) (ops : Array Oper) (l : List Oper) (σ : St) : Mono fun n => evOps g n d f ops l σ := fun n => (mono_all g n).2.1 d f ops l σ
theorem mono_ev (g : Cfg) (d f : Nat) (c : Code) (σ : St) : Mono fun n => evN g n d f c σ := fun n => (mono_all g n).2.2 d f c σ


variable (g : Cfg) (d f : Nat) (σ : St)

theorem evo_skip : evo g d f .skip σ = some (.norm σ) := lim_const (by rw [evN]) fun n => by rw [evN]
theorem evo_exit (id : Nat) : evo g d f (.exit id) σ = some (.exit id σ) := lim_const (by rw [evN]) fun n => by rw [evN]
theorem evo_ret : evo g d f .ret σ = some (.ret σ) := lim_const (by rw [evN]) fun n => by rw [evN]
theorem evo_seq (a b : Code) : evo g d f (.seq a b) σ = (evo g d f a σ).bind fun o => o.then fun σ' => evo g d f b σ' := by
  unfold evo
  rw [lim_bind (mono_ev g d f (.seq a b) σ) (by rw [evN]) (p := fun n => evN g n d f a σ) (q := fun n o => o.then fun σ' => evN g n d f b σ')
    (fun n => by rw [evN]) (mono_ev g d f a σ) (fun o => by cases o with
      | norm σ' => exact mono_ev g d f b σ'
      | exit id σ' => exact mono_const _
      | ret σ' => exact mono_const _)]
  congr 1
  funext o
  cases o with
  | norm σ' => rfl
  | exit id σ' => exact lim_ext (mono_const _) fun _ => ⟨fun ⟨_, h⟩ => h, fun h => ⟨0, h⟩⟩
  | ret σ' => exact lim_ext (mono_const _) fun _ => ⟨fun ⟨_, h⟩ => h, fun h => ⟨0, h⟩⟩
theorem lim_of_const {α : Type} (x : Option α) : lim (fun _ => x) = x := lim_ext (mono_const _) fun _ => ⟨fun ⟨_, h⟩ => h, fun h => ⟨0, h⟩⟩
theorem evo_block (id : Nat) (a : Code) : evo g d f (.block id a) σ = (evo g d f a σ).bind fun o => some (o.blk id) := by
  unfold evo
  rw [lim_bind (mono_ev g d f (.block id a) σ) (by rw [evN]) (p := fun n => evN g n d f a σ) (q := fun _ o => some (o.blk id))
    (fun n => by rw [evN]) (mono_ev g d f a σ) (fun o => mono_const _)]
  congr 1
  funext o
  exact lim_of_const _
theorem evo_cond (x : Operand) (a b : Code) : evo g d f (.cond x a b) σ = (toBool (opnd σ.env x)).bind fun t => if t then evo g d f a σ else evo g d f b σ := by
  unfold evo
  rw [lim_bind (mono_ev g d f (.cond x a b) σ) (by rw [evN]) (p := fun _ => toBool (opnd σ.env x)) (q := fun n t => if t then evN g n d f a σ else evN g n d f b σ)
    (fun n => by rw [evN]) (mono_const _) (fun t => by cases t <;> simp only [Bool.false_eq_true, if_true, if_false] <;> exact mono_ev g d f _ σ)]
  rw [lim_of_const]
  congr 1
  funext t
  cases t <;> rfl
theorem evo_loop (a : Code) : evo g d f (.loop a) σ = (lookK (f, rid a) g.keep).bind fun k => (evo g d f a (restrict d σ (k.hd, k.bx))).bind fun o => o.loopThen d k fun σ' => evo g d f (.loop a) σ' := by
  unfold evo
  have hm : ∀ k, Mono fun n => (evN g n d f a (restrict d σ (k.hd, k.bx))).bind fun o => o.loopThen d k fun σ' => evN g n d f (.loop a) σ' := fun k n =>
    Le.bind (mono_ev g d f a _ n) fun o => by cases o with
      | norm σ' => exact mono_ev g d f _ _ n
      | exit id σ' => exact Le.refl _
      | ret σ' => exact Le.refl _
  rw [lim_bind (mono_ev g d f (.loop a) σ) (by rw [evN]) (p := fun _ => lookK (f, rid a) g.keep) (q := fun n k => (evN g n d f a (restrict d σ (k.hd, k.bx))).bind fun o => o.loopThen d k fun σ' => evN g n d f (.loop a) σ')
    (fun n => by rw [evN]) (mono_const _) hm]
  rw [lim_of_const]
  congr 1
  funext k
  rw [← lim_shift (f := fun n => match n with | 0 => none | n + 1 => (evN g n d f a (restrict d σ (k.hd, k.bx))).bind fun o => o.loopThen d k fun σ' => evN g n d f (.loop a) σ') rfl (fun n => rfl) (hm k)]
  rw [lim_bind (p := fun n => evN g n d f a (restrict d σ (k.hd, k.bx))) (q := fun n o => o.loopThen d k fun σ' => evN g n d f (.loop a) σ') (fun n => by cases n with | zero => exact Le.none _ | succ n => exact hm k n) rfl
    (fun n => rfl) (mono_ev g d f a _) (fun o => by cases o with
      | norm σ' => exact mono_ev g d f _ σ'
      | exit id σ' => exact mono_const _
      | ret σ' => exact mono_const _)]
  congr 1
  funext o
  cases o with
  | norm σ' => rfl
  | exit id σ' => exact lim_of_const _
  | ret σ' => exact lim_of_const _
theorem evo_region (id : Nat) (ops : Array Oper) (draw : Bool) : evo g d f (.region id ops draw) σ = (ghoAt g d f id σ).bind fun σ => (opso g d f ops ops.toList σ).bind fun σ => (ghoAt g d f (behind id) σ).map .norm := by
  unfold evo opso
  have hm : ∀ σ', Mono fun n => (evOps g n d f ops ops.toList σ').bind fun σ => (ghoAt g d f (behind id) σ).map Out.norm := fun σ' n => Le.bind (mono_ops g d f ops _ σ' n) fun _ => Le.refl _
  rw [lim_bind (mono_ev g d f (.region id ops draw) σ) (by rw [evN]) (p := fun _ => ghoAt g d f id σ) (q := fun n σ' => (evOps g n d f ops ops.toList σ').bind fun σ => (ghoAt g d f (behind id) σ).map .norm)
    (fun n => by rw [evN]) (mono_const _) hm, lim_of_const]
  congr 1
  funext σ'
  refine lim_ext (hm σ') fun a => ?_
  rw [Option.bind_eq_some_iff]
  constructor
  · rintro ⟨n, hn⟩
    rw [Option.bind_eq_some_iff] at hn
    obtain ⟨b, hb, hg⟩ := hn
    exact ⟨b, (lim_some (mono_ops g d f ops _ σ') b).2 ⟨n, hb⟩, hg⟩
  · rintro ⟨b, hb, hg⟩
    obtain ⟨n, hn⟩ := (lim_some (mono_ops g d f ops _ σ') b).1 hb
    exact ⟨n, by rw [hn]; exact hg⟩

theorem opso_nil (ops : Array Oper) : opso g d f ops [] σ = some σ := lim_const (by rw [evOps]) fun n => by rw [evOps]

noncomputable def stepo (g : Cfg) (d f : Nat) (o : Oper) (σ : St) : Option St := stepW (callo g d) g d f o σ

theorem mono_step (o : Oper) : Mono fun n => stepW (callN g n d) g d f o σ := by
  intro n
  show Le (stepW _ g d f o σ) (stepW _ g d f o σ)
  unfold stepW
  split
  · exact Le.bind (Le.refl _) fun kc => Le.bind (mono_call g d _ _ _ n) fun _ => Le.refl _
  · exact Le.refl _

theorem lim_bind' {α β : Type} {p : Nat → Option α} {q : Nat → α → Option β} (hp : Mono p) (hq : ∀ a, Mono fun n => q n a) :
    lim (fun n => (p n).bind (q n)) = (lim p).bind fun a => lim fun n => q n a := by
  have hm : Mono fun n => (p n).bind (q n) := fun n => Le.bind (hp n) fun a => hq a n
  rw [← lim_shift (f := fun n => match n with | 0 => none | n + 1 => (p n).bind (q n)) rfl (fun n => rfl) hm]
  exact lim_bind (fun n => by cases n with | zero => exact Le.none _ | succ n => exact hm n) rfl (fun n => rfl) hp hq

theorem lim_step (o : Oper) : lim (fun n => stepW (callN g n d) g d f o σ) = stepo g d f o σ := by
  unfold stepo stepW
  split
  · rename_i x args _ _
    rw [lim_bind' (p := fun _ => calleeOf σ.env x) (q := fun n kc => (callN g n d kc.1 (args.toList.map (fun y => (opnd σ.env y).copy) ++ kc.2) σ.mem).bind fun rm => some ({ env := putD σ.env o.dst rm.1, mem := rm.2 } : St))
      (mono_const _) (fun kc n => Le.bind (mono_call g d _ _ _ n) fun _ => Le.refl _), lim_of_const]
    congr 1
    funext kc
    rw [lim_bind' (p := fun n => callN g n d kc.1 (args.toList.map (fun y => (opnd σ.env y).copy) ++ kc.2) σ.mem) (q := fun _ rm => some ({ env := putD σ.env o.dst rm.1, mem := rm.2 } : St)) (mono_call g d _ _ _) (fun rm => mono_const _)]
    unfold callo
    congr 1
    funext rm
    exact lim_of_const _
  · exact lim_of_const _

theorem opso_cons (ops : Array Oper) (o : Oper) (rest : List Oper) : opso g d f ops (o :: rest) σ = (wants ops σ.env o).bind fun want =>
    (if want then stepo g d f o σ else some { σ with env := putD σ.env o.dst .skp }).bind fun σ' => opso g d f ops rest σ' := by
  unfold opso
  have hs : ∀ want : Bool, Mono fun n => (if want then stepW (callN g n d) g d f o σ else some { σ with env := putD σ.env o.dst .skp }) := by
    intro want
    cases want with
    | true => exact mono_step g d f σ o
    | false => exact mono_const _
  rw [lim_bind (mono_ops g d f ops (o :: rest) σ) (by rw [evOps]) (p := fun _ => wants ops σ.env o)
    (q := fun n want => (if want then stepW (callN g n d) g d f o σ else some { σ with env := putD σ.env o.dst .skp }).bind fun σ' => evOps g n d f ops rest σ')
    (fun n => by rw [evOps]) (mono_const _) (fun want n => Le.bind (hs want n) fun _ => mono_ops g d f ops rest _ n), lim_of_const]
  congr 1
  funext want
  rw [lim_bind' (hs want) (fun σ' => mono_ops g d f ops rest σ')]
  congr 1
  cases want with
  | true => exact lim_step g d f σ o
  | false => exact lim_of_const _

theorem callo_eq (args : List AV) (mem : Mem) : callo g d f args mem =
    match lookN f g.ctx with
    | some F => (args.mapM AV.lend).bind fun la => (F la).bind fun r => if r.own? || (r.data? && args.all AV.shr?) then some (r, mem) else none
    | none =>
      match g.P.funcs[f]? with
      | some fn =>
        match fn.body with
        | some c => if !fnOK g f fn || args.length > fn.ntmps then none else
          (evo g (d + 1) f c { env := fun t => (args[t]?).getD .dead, mem }).bind fun out =>
            out.done.bind fun σ => (ghoAt g (d + 1) f atEnd σ).bind fun σ => (retVal g.P (d + 1) fn σ).bind fun r => some (r.kill (fun k => d < k.1), memKill (fun k => d < k.1) σ.mem)
        | none => none
      | none => none := by
  unfold callo
  cases hl : lookN f g.ctx with
  | some F => exact lim_const (by rw [callN]) fun n => by rw [callN, hl]
  | none =>
    simp only
    cases hf : g.P.funcs[f]? with
    | none => exact lim_const (by rw [callN]) fun n => by rw [callN, hl]; simp only [hf]
    | some fn =>
      simp only
      cases hb : fn.body with
      | none => exact lim_const (by rw [callN]) fun n => by rw [callN, hl]; simp only [hf, hb]
      | some c =>
        simp only
        by_cases hc : (!fnOK g f fn || decide (args.length > fn.ntmps)) = true
        · simp only [hc, if_true]
          exact lim_const (by rw [callN]) fun n => by rw [callN, hl]; simp only [hf, hb, hc, if_true]
        · simp only [Bool.not_eq_true] at hc
          simp only [hc, Bool.false_eq_true, if_false]
          rw [lim_bind (mono_call g d f args mem) (by rw [callN]) (p := fun n => evN g n (d + 1) f c { env := fun t => (args[t]?).getD .dead, mem })
            (q := fun _ out => out.done.bind fun σ => (ghoAt g (d + 1) f atEnd σ).bind fun σ => (retVal g.P (d + 1) fn σ).bind fun r => some (r.kill (fun k => d < k.1), memKill (fun k => d < k.1) σ.mem))
            (fun n => by rw [callN, hl]; simp only [hf, hb, hc, Bool.false_eq_true, if_false]) (mono_ev g (d + 1) f c _) (fun _ => mono_const _)]
          unfold evo
          cases lim (fun n => evN g n (d + 1) f c { env := fun t => (args[t]?).getD .dead, mem }) with
          | none => rfl
          | some out => exact lim_of_const _

end Go.Ev
