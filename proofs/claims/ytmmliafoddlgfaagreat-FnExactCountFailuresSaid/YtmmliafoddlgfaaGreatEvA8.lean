import Derived.Test.YtmmliafoddlgfaaGreatEvA7
import Derived.Below
import Derived.Laws.AppendOwn
import Derived.Laws.OwnMore
import Derived.Sort.Row
import Derived.IntWalk
set_option linter.unusedSimpArgs false
set_option linter.unusedVariables false
set_option linter.unnecessarySimpa false
noncomputable section
namespace Go.Ev

theorem ofD_own (d : D) : (C.ofD .own d).killB = C.ofD .own d ∧ (C.ofD .own d).data? = true := by
 cases d <;> exact ⟨rfl, rfl⟩
theorem av_own {α : Type} [Enc α] (x : α) : (av .own x).killB = av .own x ∧ (av .own x).data? = true := by
 unfold av
 cases ha : Enc.agg α with
 | true =>
  simp only [avC_true, AV.killB, AV.data?]
  refine ⟨?_, ?_⟩
  ·congr 1
   rw [List.map_map]
   exact List.map_congr_left fun d _ => (ofD_own d).1
  ·rw [List.all_eq_true]
   intro c hc
   obtain ⟨d, _, rfl⟩ := List.mem_map.1 hc
   exact (ofD_own d).2
 | false =>
  obtain ⟨d, hd⟩ := one_cell (α := α) ha x
  rw [hd]
  exact ⟨congrArg AV.one (ofD_own d).1, (ofD_own d).2⟩
class OArgs (X : Type) where
 args : X → List AV
 inj : ∀ x y, args x = args y → x = y
 data : ∀ x, ∀ a ∈ args x, a.killB = a ∧ a.data? = true
instance : OArgs Unit where
 args _ := []
 inj _ _ _ := rfl
 data _ a h := by cases h
instance {α β : Type} [Enc α] [OArgs β] : OArgs (α × β) where
 args x := av .own x.1 :: OArgs.args x.2
 inj x y h := by
  simp only [List.cons.injEq] at h
  exact Prod.ext (av_inj h.1) (OArgs.inj _ _ h.2)
 data x a h := by
  rcases List.mem_cons.1 h with rfl | h
  ·exact av_own _
  ·exact OArgs.data x.2 a h
open Classical in
def specO {X R : Type} [OArgs X] [Res R] (F : X → Option R) : List AV → Option AV := fun as => if h : ∃ x, OArgs.args x = as then (F (Classical.choose h)).map Res.res else none
theorem specO_eq {X R : Type} [OArgs X] [Res R] {F : X → Option R} {x : X} {y : R} (h : F x = some y) : specO F (OArgs.args x) = some (Res.res y) := by
 unfold specO
 have hx : ∃ z, OArgs.args z = OArgs.args x := ⟨x, rfl⟩
 rw [dif_pos hx, OArgs.inj _ _ (Classical.choose_spec hx), h]
 rfl
theorem po_of {g : Cfg} {X R : Type} [OArgs X] [Res R] {F : X → Option R} {f : Nat} (hctx : CtxOK g) (hn : lookN f g.ctx = none) (h : ∀ x y, F x = some y → ∃ m, callo g 0 f (OArgs.args x) mem0 = some (Res.res y, m)) : PO g.P f (specO F) := by
 refine PO.of_ev hctx hn fun as r hr => ?_
 unfold specO at hr
 split at hr
 ·rename_i hx
  obtain ⟨y, hy, rfl⟩ := Option.map_eq_some_iff.1 hr
  have := h _ _ hy
  rw [Classical.choose_spec hx] at this
  refine ⟨this, ?_, Res.own y⟩
  have hd := OArgs.data (Classical.choose hx)
  rw [Classical.choose_spec hx] at hd
  exact hd
 ·cases hr
@[reducible] def AllPO (P : Program) : List (Nat × (List AV → Option AV)) → Prop
 | [] => True
 | x :: r => PO P x.1 x.2 ∧ AllPO P r
theorem ctxOK_ofO {g : Cfg} (l : List (Nat × (List AV → Option AV))) (hl : g.ctx = l) (h : AllPC g.P l) (lo : List (Nat × (List AV → Option AV))) (ho : g.octx = lo) (h2 : AllPO g.P lo) : CtxOK g := by
 refine ⟨fun f F hf => ?_, fun f F hf => ?_⟩
 ·rw [hl] at hf
  clear hl
  induction l with
  | nil => cases hf
  | cons x r ih =>
   simp only [lookN] at hf
   split at hf
   ·rename_i he
    cases hf
    exact he ▸ h.1
   ·exact ih h.2 hf
 ·rw [ho] at hf
  clear ho
  induction lo with
  | nil => cases hf
  | cons x r ih =>
   simp only [lookN] at hf
   split at hf
   ·rename_i he
    cases hf
    exact he ▸ h2.1
   ·exact ih h2.2 hf

theorem av_inj2 {α : Type} [Enc α] {m m' : Md} {x y : α} (h : av m x = av m' y) : x = y := by
 have := congrArg AV.lend h
 rw [av_lend, av_lend] at this
 exact av_inj (Option.some.inj this)
theorem ofD_any (m : Md) (hm : m = .own ∨ m = .shr) (d : D) : (C.ofD m d).killB = C.ofD m d ∧ (C.ofD m d).data? = true := by
 rcases hm with rfl | rfl <;> cases d <;> exact ⟨rfl, rfl⟩
theorem av_any {α : Type} [Enc α] {m : Md} (hm : m = .own ∨ m = .shr) (x : α) : (av m x).killB = av m x ∧ (av m x).data? = true := by
 unfold av
 cases ha : Enc.agg α with
 | true =>
  simp only [avC_true, AV.killB, AV.data?]
  refine ⟨?_, ?_⟩
  ·congr 1
   rw [List.map_map]
   exact List.map_congr_left fun d _ => (ofD_any m hm d).1
  ·rw [List.all_eq_true]
   intro c hc
   obtain ⟨d, _, rfl⟩ := List.mem_map.1 hc
   exact (ofD_any m hm d).2
 | false =>
  obtain ⟨d, hd⟩ := one_cell (α := α) ha x
  rw [hd]
  exact ⟨congrArg AV.one (ofD_any m hm d).1, (ofD_any m hm d).2⟩
section
variable {α β R : Type} [Enc α] [Enc β] [Res R]
def fitsM (as : List AV) (x : α × β × Unit) : Prop := ∃ m : Md, (m = .own ∨ m = .shr) ∧ [av .own x.1, av m x.2.1] = as
open Classical in
def specOM (F : α × β × Unit → Option R) : List AV → Option AV := fun as => if h : ∃ x : α × β × Unit, fitsM as x then (F (Classical.choose h)).map Res.res else none
theorem specOM_eq {F : α × β × Unit → Option R} {x : α × β × Unit} {y : R} {m : Md} (hm : m = .own ∨ m = .shr) (h : F x = some y) : specOM F [av .own x.1, av m x.2.1] = some (Res.res y) := by
 unfold specOM
 have hx : ∃ z : α × β × Unit, fitsM [av .own x.1, av m x.2.1] z := ⟨x, m, hm, rfl⟩
 rw [dif_pos hx]
 obtain ⟨m', _, h2⟩ := Classical.choose_spec hx
 simp only [List.cons.injEq, and_true] at h2
 have h3 : Classical.choose hx = x := Prod.ext (av_inj h2.1) (Prod.ext (av_inj2 h2.2) rfl)
 rw [h3, h]
 rfl
theorem po_ofM {g : Cfg} {F : α × β × Unit → Option R} {f : Nat} (hctx : CtxOK g) (hn : lookN f g.ctx = none) (h : ∀ (x : α × β × Unit) y (m : Md), F x = some y → ∃ m', callo g 0 f [av .own x.1, av m x.2.1] mem0 = some (Res.res y, m')) : PO g.P f (specOM F) := by
 refine PO.of_ev hctx hn fun as r hr => ?_
 unfold specOM at hr
 split at hr
 ·rename_i hx
  obtain ⟨y, hy, rfl⟩ := Option.map_eq_some_iff.1 hr
  obtain ⟨m, hm, h2⟩ := Classical.choose_spec hx
  have := h _ _ m hy
  rw [h2] at this
  refine ⟨this, ?_, Res.own y⟩
  rw [← h2]
  intro a ha
  rcases List.mem_cons.1 ha with rfl | ha
  ·exact av_own _
  ·rcases List.mem_cons.1 ha with rfl | ha
   ·exact av_any hm _
   ·cases ha
 ·cases hr
end

theorem start_eff {g : Cfg} {P : Program} {f : Nat} {args : List AV} {mem memR : Mem} {d : Nat} {fn : Func} {r : AV} (c : Code) (l : List ResultVar) {tk : List Nat} {kp : List (Nat × Kp)} {cs : List (Nat × (List AV → Option AV))} {gl : List (Nat × List Gho)} {gv : List Nat} {os : List (Nat × Option (List AV → Option AV))} (G : Has P g f fn tk kp cs gl gv os) (h1 : P.funcs[f]? = some fn) (h2 : fn.body = some c)
 (h4 : args.length ≤ fn.ntmps) (h5 : fn.results.toList = l) (h : Goal (FnEndI P d l ((lookN atEnd gl).getD []) r memR) (evk g (d + 1) f c [] { env := fun t => (args[t]?).getD .dead, mem := markMem true d mem })) : callo g d f args (markMem true d mem) = some (r, memR) := by
 rw [evo_start l G.no G.P h1 h2 G.ok h4 h5, G.gh]
 exact h
theorem goal_giveE {g : Cfg} {d f : Nat} {T : Option Out → Prop} {ops : Array Oper} {dst : Option Nat} {l : List Oper} {K : List It} {env : Nat → AV} {k : Nat} {args : List AV} {mem mem2 : Mem} (args' : List AV) (r : AV) (ha : args = args') (h : callo g d k args' (markMem true d mem) = some (r, mem2))
 (h2 : Goal T (opsK g d f ops l K { env := putD env dst r, mem := mem2 })) : Goal T (retK g d f ops dst l K env (callo g d k args (markMem true d mem))) := by
 subst ha
 rw [h]
 exact h2
def FnEndD (P : Program) (d : Nat) (l : List ResultVar) (gl : List Gho) (r : AV) (Q : Mem → Prop) (o : Option Out) : Prop := ∃ m, finK P d l gl o = some (r, m) ∧ Q m
theorem start_D {g : Cfg} {P : Program} {f : Nat} {args : List AV} {mem : Mem} {d : Nat} {fn : Func} {r : AV} {Q : Mem → Prop} (c : Code) (l : List ResultVar) (h0 : lookN f g.ctx = none) (hP : g.P = P) (h1 : P.funcs[f]? = some fn) (h2 : fn.body = some c) (h3 : fnOK g f fn = true)
 (h4 : args.length ≤ fn.ntmps) (h5 : fn.results.toList = l) (h : ∀ QV, QV = Q → Goal (FnEndD P d l ((lookK (f, atEnd) g.gho).getD []) r QV) (evk g (d + 1) f c [] { env := fun t => (args[t]?).getD .dead, mem })) : ∃ m, callo g d f args mem = some (r, m) ∧ Q m := by
 rw [evo_start l h0 hP h1 h2 h3 h4 h5]
 exact h _ rfl
theorem goal_callD {g : Cfg} {d f : Nat} {T : Option Out → Prop} {ops : Array Oper} {dst : Option Nat} {l : List Oper} {K : List It} {env : Nat → AV} {k : Nat} {args : List AV} {mem : Mem} (args' : List AV) {r : AV} {Q : Mem → Prop} (ha : args = args') (h : ∃ m, callo g d k args' mem = some (r, m) ∧ Q m)
 (h2 : ∀ m, Q m → Goal T (opsK g d f ops l K { env := putD env dst r, mem := m })) : Goal T (retK g d f ops dst l K env (callo g d k args mem)) := by
 subst ha
 obtain ⟨m, h, hq⟩ := h
 rw [h]
 exact h2 m hq
theorem kill_twice (p : Key → Bool) (c : C) : (c.kill p).kill p = c.kill p := by
 cases c with
 | ptr k off => cases h : p k <;> simp [C.kill, h]
 | fn f caps => cases h : caps.any (fun c => p c.1) <;> simp only [C.kill, h, if_true, if_false, Bool.false_eq_true]
 | bs k n sz => cases h : p k <;> simp [C.kill, h]
 | _ => rfl
theorem tight_end (d : Nat) (m : Mem) : Tight d (memKill (fun k => decide (d < k.1)) m) := by
 unfold Tight
 funext k
 unfold memKill
 split
 ·rfl
 ·cases m k with
  | none => rfl
  | some cs =>
   simp only [Option.map_some, List.map_map]
   congr 1
   exact List.map_congr_left fun c _ => kill_twice _ c
theorem nobox_end {d : Nat} {L L' : List Key} {m : Mem} (hn : NoBox L' m) (h : ∀ x ∈ L', ¬ d < x.1 → x ∈ L) : NoBox L (memKill (fun k => decide (d < k.1)) m) := fun k hk => by
 unfold memKill
 split
 ·rfl
 ·rename_i hd
  rw [hn k fun hk2 => hk (h k hk2 (by simpa using hd))]
  rfl
theorem zaj {d : Nat} {m : Mem} {K : Key} (h : Tight d m) : Tight d (fun k => if k = K then Option.none else Option.map (List.map (C.kill fun x => x == K)) (m k)) := by
 have he : (fun k => if k = K then Option.none else Option.map (List.map (C.kill fun x => x == K)) (m k)) = memKill (fun x => x == K) m := by
  funext k
  unfold memKill
  by_cases hk : k = K <;> simp [hk]
 rw [he]
 unfold Tight at h ⊢
 rw [memKill_comm, h]
@[simp] theorem markMem_false (d : Nat) (m : Mem) : markMem false d m = m := rfl
def AgreeX (d : Nat) (K : Key) (mem m : Mem) : Prop := ∀ k : Key, k.1 ≤ d → k ≠ K → m k = mem k
theorem AgreeX.upd {d : Nat} {K K' : Key} {mem m : Mem} {v : Option (List C)} (h : AgreeX d K mem m) (hk : d < K'.1) : AgreeX d K mem (Ev.upd m K' v) := fun k h1 h2 => by
 unfold Ev.upd
 rw [if_neg (by rintro rfl; omega)]
 exact h k h1 h2
theorem AgreeX.updK {d : Nat} {K : Key} {mem m : Mem} {v : Option (List C)} (h : AgreeX d K mem m) : AgreeX d K mem (Ev.upd m K v) := fun k h1 h2 => by
 unfold Ev.upd
 rw [if_neg h2]
 exact h k h1 h2
theorem AgreeX.fin {d : Nat} {K : Key} {mem m : Mem} {cs : List C} (h : AgreeX d K mem m) (hk : m K = some cs) : Agree d (Ev.upd mem K (some cs)) m := fun k h1 => by
 unfold Ev.upd
 by_cases he : k = K
 ·subst he; rw [if_pos rfl]; exact hk
 ·rw [if_neg he]; exact h k h1 he
theorem exV {α : Type} (a : α) : ∃ x, x = a := ⟨a, rfl⟩
def uL {α : Type} [Enc α] (m : Md) (x : List α) : AV := .one (.l m x.length (encL x))
def uI (x : Int) : AV := .one (.s (.int .i64 x))
def uB (x : Bool) : AV := .one (.s (.bool x))
def uP (k : Key) : AV := .one (.ptr k 0)
abbrev Pl1 (g : Cfg) : Prop := g.gho = [] ∧ g.ro = [] ∧ g.away = [] ∧ g.give = [] ∧ g.octx = []
abbrev Pl0 (g : Cfg) : Prop := g.take = [] ∧ Pl1 g
attribute [simp] uL uI uB uP Pl0 Pl1 s_giveT giveV_some Cfg.leaves deepK
end Go.Ev


namespace Go.Ev
def chr? (s : ByteArray) (i : Int) : Option Int := if 0 ≤ i then (s[i.toNat]?).map fun b => (b.toNat : Int) else none
def idxAV (P : Program) (t : TypeId) (X Y : AV) : Option Value :=
 if (sclr X).isSome && (sclr Y).isSome then
  match pureOf P (Instr.index t ((sclr X).getD undef) ((sclr Y).getD undef)) with
  | some v => if scal v then some v else none
  | none => none
 else none
theorem opE_index (g : Cfg) (d f : Nat) (σ : St) (dst : Option Nat) (pos : String) (after : Array Edge) (ty : TypeId) (guard : Option (Nat × Bool)) (t : Nat) (x y : Operand) :
 opE g d f { dst, op := .index t x y, type := ty, pos, after, guard } σ = (idxAV g.P t (opnd σ.env x) (opnd σ.env y)).map fun v => (.one (.s v), σ) := by
 have : scalarOp g.P σ.env { dst, op := .index t x y, type := ty, pos, after, guard } = idxAV g.P t (opnd σ.env x) (opnd σ.env y) := by
  unfold scalarOp idxAV
  have h1 : (Op.index t x y).operands.all (fun x => (sclr (opnd σ.env x)).isSome) = ((sclr (opnd σ.env x)).isSome && (sclr (opnd σ.env y)).isSome) := by
   simp [Op.operands]
  simp only [h1]
  split
  ·simp only [execOp, pureOf_bind]
   cases h2 : pureOf g.P (Instr.index t ((sclr (opnd σ.env x)).getD undef) ((sclr (opnd σ.env y)).getD undef)) with
   | none => simp
   | some v => rfl
  ·rfl
 simp only [opE, this]
 cases idxAV g.P t (opnd σ.env x) (opnd σ.env y) <;> rfl
theorem s_index {g : Cfg} {d f : Nat} (dst : Option Nat) (pos : String) (after : Array Edge) (ty : TypeId) (guard : Option (Nat × Bool)) (t : Nat) (ops : Array Oper) (l : List Oper) (K : List It) (σ : St) (x y : Operand) :
 stK g d f ops { dst, op := .index t x y, type := ty, pos, after, guard } l K σ = putK g d f ops dst l K ((idxAV g.P t (opnd σ.env x) (opnd σ.env y)).map fun v => (.one (.s v), σ)) := by
 rw [st_op _ _ _ _ _ (by simp), opE_index]
theorem idx_str {P : Program} {t : TypeId} {s : ByteArray} {i c : Int} (hu : P.underlying t = some .string) (h : chr? s i = some c) : idxAV P t (.one (.s (.string s))) (.one (.s (.int .i64 i))) = some (.int .u8 c) := by
 unfold chr? at h
 split at h
 ·rename_i hi
  rw [Option.map_eq_some_iff] at h
  obtain ⟨b, hb, rfl⟩ := h
  have h1 := pureOf_underlying hu
  simp [idxAV, sclr, Instr.index, pureOf_bind, asIntOf, pureOf, pure, h1, hi, hb, scal]
 ·cases h
section
variable (P : Program) (t : TypeId) (x y : Operand) (a b : Int)
@[simp] theorem tb_ltU : binAV P .lss t x y (.one (.s (.int .u8 a))) (.one (.s (.int .u8 b))) = some (.bool (ltI a b)) := by
 simp [binAV, sclr, eqGuard, binOp, Op.intCmp, pureOf, pure, bind, Sem.bind, scal, ltI]
@[simp] theorem tb_gtU : binAV P .gtr t x y (.one (.s (.int .u8 a))) (.one (.s (.int .u8 b))) = some (.bool (ltI b a)) := by
 simp [binAV, sclr, eqGuard, binOp, Op.intCmp, pureOf, pure, bind, Sem.bind, scal, ltI]
@[simp] theorem tb_leU : binAV P .leq t x y (.one (.s (.int .u8 a))) (.one (.s (.int .u8 b))) = some (.bool (leI a b)) := by
 simp [binAV, sclr, eqGuard, binOp, Op.intCmp, pureOf, pure, bind, Sem.bind, scal, leI]
@[simp] theorem tb_geU : binAV P .geq t x y (.one (.s (.int .u8 a))) (.one (.s (.int .u8 b))) = some (.bool (leI b a)) := by
 simp [binAV, sclr, eqGuard, binOp, Op.intCmp, pureOf, pure, bind, Sem.bind, scal, leI]
@[simp] theorem tb_eqU : binAV P .eql t x y (.one (.s (.int .u8 a))) (.one (.s (.int .u8 b))) = some (.bool (eqI a b)) := by
 simp [binAV, sclr, eqGuard, binOp, Op.intCmp, pureOf, pure, bind, Sem.bind, scal, eqI]
 rfl
@[simp] theorem tb_neU : binAV P .neq t x y (.one (.s (.int .u8 a))) (.one (.s (.int .u8 b))) = some (.bool (neI a b)) := by
 simp [binAV, sclr, eqGuard, binOp, Op.intCmp, pureOf, pure, bind, Sem.bind, scal, neI]
 by_cases h : a = b <;> simp [h]
end
attribute [simp] s_index
end Go.Ev


namespace Go.Ev
open Go.RowKit

theorem below_kept {w w' : World} (hb : Below w.heap.size w w') (hs : w.heap.size ≤ w'.heap.size) : Kept w w' :=
 ⟨⟨hb.os, hb.tape, hb.output⟩, fun a h => ⟨Nat.lt_of_lt_of_le h hs, hb.frozen h⟩⟩

def ghRow (G : Gh) (b n : Nat) : Gh := { G with own := fun x => if x = b then some (.at .ret []) else G.own x, use := fun x => if x = b then n else G.use x }

theorem row_back {w w' : World} {G : Gh} {e : TypeId} {n sz : Nat} {vs : List Value} {v' : Value} (h : w'.ownsRow w.heap.size e sz v' n vs) (hn : 0 < n) (hs0 : 0 < sz) (hl : vs.length = n * sz) (hsc : ∀ u ∈ vs, scal u = true)
 (hw : ∀ b t, G.own b = some t → b < w.heap.size) (hsz : w.heap.size ≤ w'.heap.size) :
 ∃ G', RA w' G' .ret (.one (C.ofD .own (.sl n (vs.map D.sc)))) v' ∧ (∀ b, b < w.heap.size → G'.own b = G.own b ∧ G'.use b = G.use b) ∧ ∀ b t, G'.own b = some t → b < w'.heap.size := by
 obtain ⟨_, h⟩ := h
 rcases h with ⟨_, h0⟩ | ⟨g, cap, cur, rfl, hg, hheap, hcap, hmax, hcur, htake⟩
 ·omega
 ·have hglt : g < w'.heap.size := by
   rcases Nat.lt_or_ge g w'.heap.size with hlt | hge
   ·exact hlt
   ·simp [Array.getElem?_eq_none hge] at hheap
  have hpos : 0 < vs.length := by rw [hl]; exact Nat.mul_pos hn hs0
  refine ⟨ghRow G g vs.length, ?_, fun b hb => ?_, fun b t hb => ?_⟩
  ·show RD w' _ .ret .own [] (.sl n (vs.map D.sc)) _
   rw [RD]
   refine .inr ⟨fun h0 => by rw [List.map_eq_nil_iff] at h0; rw [h0] at hpos; simp at hpos, hn, g, 0, cap, rfl, hcap, ?_, ?_⟩
   ·refine ⟨by simp [ghRow], by simp [ghRow], rfl, cur, e, hheap, fun sz' hs => ?_⟩
    have : sz' = sz := by
     have : n * sz' = n * sz := by rw [← hl, ← List.length_map (f := D.sc)]; exact hs.symm
     exact Nat.eq_of_mul_eq_mul_left hn this
    subst this
    omega
   ·refine RDs_of fun j d hd => ?_
    rw [List.getElem?_map] at hd
    have hj : j < vs.length := by
     rcases Nat.lt_or_ge j vs.length with h | h
     ·exact h
     ·rw [List.getElem?_eq_none h] at hd; cases hd
    rw [List.getElem?_eq_getElem hj] at hd
    cases hd
    have hc : cur.toList[j]? = some vs[j] := by
     have h1 : (cur.toList.take (n * sz))[j]? = some vs[j] := by rw [htake, List.getElem?_eq_getElem hj]
     rw [List.getElem?_take, if_pos (by omega)] at h1
     exact h1
    refine ⟨vs[j], ?_, by rw [RD]; exact ⟨rfl, hsc _ (List.getElem_mem hj)⟩⟩
    unfold World.cell?
    simp only [hheap, Nat.zero_add]
    rw [← hc]
    simp
  ·have : b ≠ g := by omega
   simp [ghRow, this]
  ·simp only [ghRow] at hb
   split at hb
   ·rename_i he; rw [he]; exact hglt
   ·exact Nat.lt_of_lt_of_le (hw b t hb) hsz

theorem empty_back {w' : World} {G : Gh} {a : Option Addr} : RA w' G .ret (.one (C.ofD .own (.sl 0 []))) (.slice a 0 0) := by
 show RD w' G .ret .own [] (.sl 0 []) _
 rw [RD]
 exact .inl ⟨rfl, rfl, a, 0, rfl, fun _ => rfl⟩

theorem row_came {w : World} {G : Gh} {o : Ow} {m : Md} {p : List Nat} {n : Nat} {vs : List Value} {v : Value} (h : RD w G o m p (.sl n (vs.map D.sc)) v) :
 (n = 0 ∧ vs = [] ∧ ∃ a cap, v = .slice a 0 cap) ∨ (0 < n ∧ vs ≠ [] ∧ (∀ u ∈ vs, scal u = true) ∧ ∃ b off cap, v = .slice (some ⟨b, off, none⟩) n cap ∧ ∀ j u, vs[j]? = some u → w.cell? ⟨b, off + j, none⟩ = some u) := by
 rw [RD] at h
 rcases h with ⟨h1, h2, a, cap, rfl, _⟩ | ⟨h1, h2, b, off, cap, rfl, hc, _, hs⟩
 ·exact .inl ⟨h2, List.map_eq_nil_iff.1 h1, a, cap, rfl⟩
 ·have hg : ∀ j u, vs[j]? = some u → w.cell? ⟨b, off + j, none⟩ = some u ∧ scal u = true := fun j u hj => by
   obtain ⟨x, hx, hr⟩ := RDs_get hs j (.sc u) (by rw [List.getElem?_map, hj]; rfl)
   rw [RD] at hr
   obtain ⟨rfl, hr⟩ := hr
   rw [Nat.zero_add] at hx
   exact ⟨hx, hr⟩
  refine .inr ⟨h2, fun h0 => h1 (by rw [h0]; rfl), fun u hu => ?_, b, off, cap, rfl, fun j u hj => (hg j u hj).1⟩
  obtain ⟨j, hj⟩ := List.mem_iff_getElem?.1 hu
  exact (hg j u hj).2

class FlatE (α : Type) [Enc α] where
 fl : α → List Value
 eq : ∀ x : α, Enc.enc x = (fl x).map D.sc
 sc : ∀ x : α, ∀ u ∈ fl x, scal u = true
def flL {α : Type} [Enc α] [FlatE α] (xs : List α) : List Value := xs.flatMap FlatE.fl
theorem encL_flat {α : Type} [Enc α] [FlatE α] (xs : List α) : encL xs = (flL xs).map D.sc := by
 induction xs with
 | nil => rfl
 | cons x xs ih => rw [encL_cons, ih, FlatE.eq]; simp [flL]
theorem flL_length {α : Type} [Enc α] [FlatE α] (xs : List α) : (flL xs).length = xs.length * Enc.sz α := by
 rw [← encL_length, encL_flat, List.length_map]
@[simp] theorem flL_append {α : Type} [Enc α] [FlatE α] (xs ys : List α) : flL (xs ++ ys) = flL xs ++ flL ys := by simp [flL]
instance : FlatE Int := ⟨fun n => [.int .i64 n], fun _ => rfl, fun _ u h => by simp at h; subst h; rfl⟩
instance : FlatE Bool := ⟨fun n => [.bool n], fun _ => rfl, fun _ u h => by simp at h; subst h; rfl⟩
instance : FlatE ByteArray := ⟨fun n => [.string n], fun _ => rfl, fun _ u h => by simp at h; subst h; rfl⟩

def lib_Clone {α : Type} (bytes : Nat) (s : List α) : Option (List α) := (room s.length bytes).bind fun _ => some s
theorem one_arg {w : World} {G : Gh} {vals : Array Value} {x : AV} (h : ArgsOK w G [x] vals) : ∃ v, vals = #[v] ∧ ∀ d t, RA w G (.slot d t) x v := by
 obtain ⟨h1, h2⟩ := h
 obtain ⟨v, hv, hr⟩ := h2 0 x rfl
 refine ⟨v, ?_, hr⟩
 apply Array.ext_getElem?
 intro i
 match i with
 | 0 => rw [hv]; rfl
 | i + 1 => rw [Array.getElem?_eq_none (by rw [h1]; simp)]; rfl

theorem pc_clone {P : Program} {f : Nat} {α : Type} [Enc α] [FlatE α] {e : TypeId} {bytes : Nat} (hE : Enters P f)
 (hnil : ∀ n c w, Calls P f #[.slice none n c] w fun e w' => e = .returned (.slice none 0 0) ∧ w' = w)
 (hzero : ∀ a c w, Calls P f #[.slice (some a) 0 c] w fun e w' => ∃ b, e = .returned (.slice b 0 0) ∧ Below w.heap.size w w')
 (hrow : ∀ b off n c (vs : List Value) w, vs.length = n * Enc.sz α → n * bytes ≤ 140737488355328 → (∀ u ∈ vs, scal u = true) → (∀ j u, vs[j]? = some u → w.cell? ⟨b, off + j, none⟩ = some u) →
  Calls P f #[.slice (some ⟨b, off, none⟩) n c] w fun e' w' => ∃ v', e' = .returned v' ∧ w'.ownsRow w.heap.size e (Enc.sz α) v' n vs ∧ Below w.heap.size w w') :
 PC P f (specP (X := List α × Unit) fun x => lib_Clone bytes x.1) := by
 refine ⟨hE, fun args r hr G w vals hG hL hage hA => ?_⟩
 unfold specP at hr
 split at hr
 ·rename_i hx
  obtain ⟨y, hy, rfl⟩ := Option.map_eq_some_iff.1 hr
  have ha := Classical.choose_spec hx
  generalize Classical.choose hx = x at hy ha
  subst ha
  obtain ⟨xs, _⟩ := x
  simp only [lib_Clone] at hy
  obtain ⟨_, hroom, hy⟩ := Option.bind_eq_some_iff.1 hy
  obtain rfl : xs = y := by simpa using hy
  have hb := room_ok hroom
  obtain ⟨v, rfl, hv⟩ := one_arg (x := av .shr xs) hA
  have hv : RD w G (.slot 0 0) .shr [] (.sl xs.length ((flL xs).map D.sc)) v := by
   have := hv 0 0
   rw [← encL_flat]
   exact this
  have hret : Res.res xs = AV.one (C.ofD .own (.sl xs.length ((flL xs).map D.sc))) := by rw [← encL_flat]; rfl
  rw [hret]
  rcases row_came hv with ⟨h1, h2, a, cap, rfl⟩ | ⟨h1, h2, hsc, b, off, cap, rfl, hc⟩
  ·rw [h1, h2]
   have he : ∀ (w' : World) (a : Option Addr), Below w.heap.size w w' → ∃ v G', Ending.returned (.slice a 0 0) = .returned v ∧ RA w' G' .ret (.one (C.ofD .own (.sl 0 (([] : List Value).map D.sc)))) v ∧ w.heap.size ≤ w'.heap.size ∧ Kept w w' ∧
    (∀ b, b < w.heap.size → w'.heap[b]? = w.heap[b]? ∧ G'.own b = G.own b ∧ G'.use b = G.use b) ∧ ∀ b t, G'.own b = some t → b < w'.heap.size := fun w' a hb =>
    ⟨_, G, rfl, empty_back, hb.size, below_kept hb hb.size, fun b hlt => ⟨hb.block b hlt, rfl, rfl⟩, fun b t ho => Nat.lt_of_lt_of_le (hG b t ho).2 hb.size⟩
   cases a with
   | none => exact (hnil 0 cap w).mono fun e w' hh => by obtain ⟨rfl, rfl⟩ := hh; exact he _ _ (Below.refl _ _)
   | some a => exact (hzero a cap w).mono fun e w' hh => by obtain ⟨b, rfl, hb⟩ := hh; exact he _ _ hb
  ·have hl := flL_length xs
   refine (hrow b off xs.length cap (flL xs) w hl (by have := Nat.mul_le_mul_left xs.length (Nat.le_succ bytes); rw [← Nat.succ_eq_add_one] at hb; simp only [maxBytes] at hb; omega) hsc hc).mono fun e w' hh => ?_
   obtain ⟨v', rfl, hown, hbel⟩ := hh
   obtain ⟨G', g1, g2, g3⟩ := row_back (G := G) hown h1 (Enc.pos (α := α)) hl hsc (fun b t ho => (hG b t ho).2) hbel.size
   exact ⟨v', G', rfl, g1, hbel.size, below_kept hbel hbel.size, fun b hlt => ⟨hbel.block b hlt, g2 b hlt⟩, g3⟩
 ·cases hr

def tot (nn : Nat → Nat) : Nat → Nat
 | 0 => 0
 | j + 1 => tot nn j + nn j
def cat (ne : Nat → List Value) : Nat → List Value
 | 0 => []
 | j + 1 => cat ne j ++ ne j
theorem tot_mono (nn : Nat → Nat) : ∀ {i j}, i ≤ j → tot nn i ≤ tot nn j
 | i, 0, h => by obtain rfl : i = 0 := by omega
                 exact Nat.le_refl _
 | i, j + 1, h => by
  rcases Nat.lt_or_ge i (j + 1) with h' | h'
  ·exact Nat.le_trans (tot_mono nn (i := i) (j := j) (by omega)) (Nat.le_add_right _ _)
  ·obtain rfl : i = j + 1 := by omega
   exact Nat.le_refl _
def RowAt (w : World) (sz : Nat) (a : Option Addr) (m : Nat) (news : List Value) : Prop :=
 news.length = m * sz ∧ (∀ u ∈ news, scal u = true) ∧ (m = 0 ∨ ∃ b off, a = some ⟨b, off, none⟩ ∧ ∀ j u, news[j]? = some u → w.cell? ⟨b, off + j, none⟩ = some u)
theorem scal_one {u : Value} (h : scal u = true) : u.oneCell' = true := by cases u <;> first | rfl | cases h

theorem run_append_rowAt {P : Program} {w w0 : World} (base : Nat) (t ty e : TypeId) (i : TypeInfo) (z : Value) (size bytes : Nat) (ht : P.underlying t = some (.slice e)) (hi : P.info? e = some i) (hz : i.zero = some z)
 (hsize : i.size = size) (hby : i.bytes = bytes) (hzs : z.cells.size = size) (hsz : 0 < size)
 (v : Value) (n : Nat) (xs : List Value) (hown : w.ownsRow base e size v n xs) (a : Option Addr) (m c : Nat) (news : List Value) (hrow : RowAt w0 size a m news) (hbel : ∀ k, k < w0.heap.size → w.heap[k]? = w0.heap[k]?)
 (h63 : n + m ≤ maxLen) (hbytes : (n + m) * bytes ≤ 140737488355328) (hbase : base ≤ w.heap.size) :
 ∃ v' w', (Builtin.append_ #[t, t] ty #[v, .slice a m c]).run P w = .ok v' w' ∧ w'.ownsRow base e size v' (n + m) (xs ++ news) ∧ w.grownBy w' v.ownBlock ∧ (m = 0 → v' = v) := by
 obtain ⟨hl, hsc, hr⟩ := hrow
 rcases hr with h0 | ⟨b, off, rfl, hc⟩
 ·subst h0
  have hnews : news = [] := List.length_eq_zero_iff.1 (by simpa using hl)
  subst hnews
  refine ⟨v, w, ?_, by simpa using hown, ⟨rfl, rfl, rfl, Nat.le_refl _, fun _ _ _ => rfl⟩, fun _ => rfl⟩
  rcases hown.2 with ⟨rfl, rfl⟩ | ⟨g, cap, cur, rfl, _, _, hnc, _⟩
  ·exact run_append_zero t ty e i ht hi none 0 0 (Nat.le_refl _) a c
  ·exact run_append_zero t ty e i ht hi _ n cap hnc a c
 ·rcases Nat.eq_zero_or_pos m with h0 | hm
  ·subst h0
   have hnews : news = [] := List.length_eq_zero_iff.1 (by simpa using hl)
   subst hnews
   refine ⟨v, w, ?_, by simpa using hown, ⟨rfl, rfl, rfl, Nat.le_refl _, fun _ _ _ => rfl⟩, fun _ => rfl⟩
   rcases hown.2 with ⟨rfl, rfl⟩ | ⟨g, cap, cur, rfl, _, _, hnc, _⟩
   ·exact run_append_zero t ty e i ht hi none 0 0 (Nat.le_refl _) _ c
   ·exact run_append_zero t ty e i ht hi _ n cap hnc _ c
  ·obtain ⟨v', w', h1, h2, h3, _⟩ := run_append_own w base t ty e i z size bytes ht hi hz hsize hby hzs hsz v n xs hown ⟨b, off, none⟩ m c news hl (fun j u hj => by
    rw [Addr.add_lit]
    have := hc j u hj
    have hlt : b < w0.heap.size := World.block_lt_of_cell? _ _ this
    rw [← this]
    exact World.cell?_of_block (hbel b hlt)) (fun u hu => scal_one (hsc u hu)) h63 hbytes hbase
   exact ⟨v', w', h1, h2, h3, fun h0 => by omega⟩


theorem wrap_add {a b : Nat} (h : a + b ≤ maxLen) : wrap64 ((a : Int) + (b : Int)) = ((a + b : Nat) : Int) := by
 unfold maxLen at h
 unfold wrap64
 omega


theorem take_snoc {α : Type} {xss : List (List α)} {j : Nat} (h : j < xss.length) : (xss.take (j + 1)).flatten = (xss.take j).flatten ++ xss.getD j [] := by
 rw [List.take_add_one, List.getElem?_eq_getElem h, List.flatten_append]
 simp [List.getD, List.getElem?_eq_getElem h]
theorem tot_take {α : Type} (xss : List (List α)) : ∀ j, j ≤ xss.length → tot (fun i => (xss.getD i []).length) j = (xss.take j).flatten.length
 | 0, _ => rfl
 | j + 1, h => by rw [tot, tot_take xss j (by omega), take_snoc (by omega), List.length_append]
theorem cat_take {α : Type} [Enc α] [FlatE α] (xss : List (List α)) : ∀ j, j ≤ xss.length → cat (fun i => flL (xss.getD i [])) j = flL (xss.take j).flatten
 | 0, _ => rfl
 | j + 1, h => by rw [cat, cat_take xss j (by omega), take_snoc (by omega), flL_append]
theorem encLL {α : Type} [Enc α] (xss : List (List α)) : encL xss = xss.map fun xs => D.sl xs.length (encL xs) := by
 induction xss with
 | nil => rfl
 | cons x xs ih => rw [encL_cons, ih]; rfl

def lib_Concat {α : Type} (bytes : Nat) (s : List (List α)) : Option (List α) := (room s.length 24).bind fun _ => (room s.flatten.length bytes).bind fun _ => some s.flatten

theorem pc_concat {P : Program} {f : Nat} {α : Type} [Enc α] [FlatE α] {e : TypeId} {bytes : Nat} (hE : Enters P f)
 (hwalk : ∀ (xa : Option Addr) (xb xo N xc : Nat) (ra : Nat → Option Addr) (nn rc : Nat → Nat) (ne : Nat → List Value) (w : World), (0 < N → xa = some ⟨xb, xo, none⟩) → N ≤ maxLen →
  (∀ j, j < N → w.cell? ⟨xb, xo + j, none⟩ = some (.slice (ra j) (nn j) (rc j))) → (∀ j, j < N → RowAt w (Enc.sz α) (ra j) (nn j) (ne j)) → tot nn N * bytes ≤ 140737488355328 →
  Calls P f #[.slice xa N xc] w fun e' w' => ∃ v, e' = .returned v ∧ w'.ownsRow w.heap.size e (Enc.sz α) v (tot nn N) (cat ne N) ∧ (tot nn N = 0 → v = .slice none 0 0) ∧ Below w.heap.size w w') :
 PC P f (specP (X := List (List α) × Unit) fun x => lib_Concat bytes x.1) := by
 refine ⟨hE, fun args r hr G w vals hG hL hage hA => ?_⟩
 unfold specP at hr
 split at hr
 ·rename_i hx
  obtain ⟨y, hy, rfl⟩ := Option.map_eq_some_iff.1 hr
  have ha := Classical.choose_spec hx
  generalize Classical.choose hx = x at hy ha
  subst ha
  obtain ⟨xss, _⟩ := x
  simp only [lib_Concat] at hy
  obtain ⟨_, hroom0, hy⟩ := Option.bind_eq_some_iff.1 hy
  obtain ⟨_, hroom, hy⟩ := Option.bind_eq_some_iff.1 hy
  obtain rfl : xss.flatten = y := by simpa using hy
  have hb0 := room_ok hroom0
  have hb := room_ok hroom
  obtain ⟨v, rfl, hv⟩ := one_arg (x := av .shr xss) hA
  have hv : RD w G (.slot 0 0) .shr [] (.sl xss.length (encL xss)) v := hv 0 0
  have hret : Res.res xss.flatten = AV.one (C.ofD .own (.sl xss.flatten.length ((flL xss.flatten).map D.sc))) := by rw [← encL_flat]; rfl
  rw [hret]
  have key : ∃ (xa : Option Addr) (xb xo xc : Nat) (ra : Nat → Option Addr) (rc : Nat → Nat), v = .slice xa xss.length xc ∧ (0 < xss.length → xa = some ⟨xb, xo, none⟩) ∧
   (∀ j, j < xss.length → w.cell? ⟨xb, xo + j, none⟩ = some (.slice (ra j) ((xss.getD j []).length) (rc j))) ∧ (∀ j, j < xss.length → RowAt w (Enc.sz α) (ra j) ((xss.getD j []).length) (flL (xss.getD j []))) := by
   rw [RD] at hv
   rcases hv with ⟨h1, h2, a, cap, rfl, _⟩ | ⟨h1, h2, b, off, cap, rfl, hcap, _, hs⟩
   ·refine ⟨a, 0, 0, cap, fun _ => none, fun _ => 0, by rw [h2], fun h => by omega, fun j h => by omega, fun j h => by omega⟩
   ·have hg : ∀ j, ∃ a c, j < xss.length → w.cell? ⟨b, off + j, none⟩ = some (.slice a ((xss.getD j []).length) c) ∧ RowAt w (Enc.sz α) a ((xss.getD j []).length) (flL (xss.getD j [])) := by
     intro j
     by_cases hj : j < xss.length
     ·have hd : (encL xss)[j]? = some (.sl xss[j].length ((flL xss[j]).map D.sc)) := by
       rw [encLL, List.getElem?_map, List.getElem?_eq_getElem hj, Option.map_some, encL_flat]
      obtain ⟨u, hu, hru⟩ := RDs_get hs j _ hd
      rw [Nat.zero_add] at hu
      have hl := flL_length xss[j]
      simp only [List.getD, List.getElem?_eq_getElem hj, Option.getD_some]
      rcases row_came hru with ⟨h3, h4, a, c, rfl⟩ | ⟨h3, h4, hsc, b2, off2, c, rfl, hc⟩
      ·exact ⟨a, c, fun _ => ⟨by rw [hu, h3], ⟨hl, fun u hu => by rw [h4] at hu; simp at hu, .inl h3⟩⟩⟩
      ·exact ⟨some ⟨b2, off2, none⟩, c, fun _ => ⟨hu, ⟨hl, hsc, .inr ⟨b2, off2, rfl, hc⟩⟩⟩⟩
     ·exact ⟨none, 0, fun h => absurd h hj⟩
    refine ⟨some ⟨b, off, none⟩, b, off, cap, fun j => Classical.choose (hg j), fun j => Classical.choose (Classical.choose_spec (hg j)), rfl, fun _ => rfl, fun j hj => ?_, fun j hj => ?_⟩
    ·exact (Classical.choose_spec (Classical.choose_spec (hg j)) hj).1
    ·exact (Classical.choose_spec (Classical.choose_spec (hg j)) hj).2
  obtain ⟨xa, xb, xo, xc, ra, rc, rfl, k1, k2, k3⟩ := key
  have ht := tot_take xss xss.length (Nat.le_refl _)
  have hcat := cat_take xss xss.length (Nat.le_refl _)
  rw [List.take_length] at ht hcat
  have hw := hwalk xa xb xo xss.length xc ra (fun i => (xss.getD i []).length) rc (fun i => flL (xss.getD i [])) w k1 (by simp only [maxBytes] at hb0; unfold maxLen; omega) k2 k3
   (by rw [ht]; have := Nat.mul_le_mul_left xss.flatten.length (Nat.le_succ bytes); rw [← Nat.succ_eq_add_one] at hb; simp only [maxBytes] at hb; omega)
  rw [ht, hcat] at hw
  refine hw.mono fun e w' hh => ?_
  obtain ⟨v', rfl, hown, hnil, hbel⟩ := hh
  rcases Nat.eq_zero_or_pos xss.flatten.length with h0 | h0
  ·rw [hnil h0, List.length_eq_zero_iff.1 h0]
   exact ⟨_, G, rfl, empty_back, hbel.size, below_kept hbel hbel.size, fun b hlt => ⟨hbel.block b hlt, rfl, rfl⟩, fun b t ho => Nat.lt_of_lt_of_le (hG b t ho).2 hbel.size⟩
  ·have hsc : ∀ u ∈ flL xss.flatten, scal u = true := by
    intro u hu
    obtain ⟨x, _, hx⟩ := List.mem_flatMap.1 hu
    exact FlatE.sc x u hx
   obtain ⟨G', g1, g2, g3⟩ := row_back (G := G) hown h0 (Enc.pos (α := α)) (flL_length _) hsc (fun b t ho => (hG b t ho).2) hbel.size
   exact ⟨v', G', rfl, g1, hbel.size, below_kept hbel hbel.size, fun b hlt => ⟨hbel.block b hlt, g2 b hlt⟩, g3⟩
 ·cases hr

end Go.Ev


namespace Go.Ev
open Go.Sort

structure Two (w w' : World) (b1 b2 : Nat) (xs ys : List Int) : Prop where
 size : w.heap.size ≤ w'.heap.size
 kept : Kept w w'
 same : ∀ b, b < w.heap.size → b ≠ b1 → b ≠ b2 → w'.heap[b]? = w.heap[b]?
 one : ∀ i x, xs[i]? = some x → w'.cell? ⟨b1, i, none⟩ = some (.int .i64 x)
 two : ∀ i x, ys[i]? = some x → w'.cell? ⟨b2, i, none⟩ = some (.int .i64 x)

theorem encL_ints (xs : List Int) : encL xs = xs.map fun x => D.sc (.int .i64 x) := by
 induction xs with
 | nil => rfl
 | cons x xs ih => rw [encL_cons, ih]; rfl

theorem own_row {w : World} {G : Gh} {o : Ow} {p : List Nat} {xs : List Int} {v : Value} (hx : xs ≠ []) (h : RD w G o .own p (.sl xs.length (encL xs)) v) :
 ∃ b cap, v = .slice (some ⟨b, 0, none⟩) xs.length cap ∧ xs.length ≤ cap ∧ G.own b = some (.at o p) ∧ xs.length = G.use b ∧ b < w.heap.size ∧ Holds (Value.int .i64) w b 0 xs.toArray := by
 rw [RD] at h
 rcases h with ⟨h1, _⟩ | ⟨h1, h2, b, off, cap, rfl, hc, hn, hs⟩
 ·rw [encL_ints, List.map_eq_nil_iff] at h1
  exact absurd h1 hx
 ·obtain ⟨ho, hu, rfl, arr, e, hh, _⟩ := hn
  have hcell : ∀ j x, xs[j]? = some x → w.cell? ⟨b, j, none⟩ = some (.int .i64 x) := fun j x hj => by
   obtain ⟨v, hv, hr⟩ := RDs_get hs j (.sc (.int .i64 x)) (by rw [encL_ints, List.getElem?_map, hj]; rfl)
   rw [RD] at hr
   obtain ⟨rfl, _⟩ := hr
   simpa using hv
  have hb : b < w.heap.size := by
   rcases Nat.lt_or_ge b w.heap.size with h | h
   ·exact h
   ·simp [Array.getElem?_eq_none h] at hh
  refine ⟨b, cap, rfl, hc, ho, by rw [encL_ints] at hu; simpa using hu, hb, fun j hj => ?_⟩
  have hj : j < xs.length := by simpa using hj
  refine ⟨?_, by simp [World.frozen?, hh]⟩
  rw [Nat.zero_add, hcell j xs[j] (List.getElem?_eq_getElem hj)]
  simp [hj]

theorem shr_row {w : World} {G : Gh} {o : Ow} {p : List Nat} {xs : List Int} {b cap n : Nat} (hc : n ≤ cap) (hl : xs.length ≤ n) (ho : G.own b = none) (hu : n ≤ G.use b)
 (h : ∀ i x, xs[i]? = some x → w.cell? ⟨b, i, none⟩ = some (.int .i64 x)) : RD w G o .shr p (.sl xs.length (encL xs)) (.slice (some ⟨b, 0, none⟩) xs.length cap) := by
 rw [RD]
 by_cases hx : xs = []
 ·subst hx
  exact .inl ⟨rfl, rfl, _, _, rfl, by simp [Md.isOwn]⟩
 ·refine .inr ⟨by rw [encL_ints, Ne, List.map_eq_nil_iff]; exact hx, List.length_pos_iff.2 hx, b, 0, cap, rfl, by omega, ⟨ho, by rw [encL_ints]; simp; omega⟩, RDs_of fun j d hd => ?_⟩
  rw [encL_ints, List.getElem?_map] at hd
  cases hj : xs[j]? with
  | none => rw [hj] at hd; cases hd
  | some x =>
   rw [hj] at hd
   cases hd
   exact ⟨_, by simpa using h j x hj, by rw [RD]; exact ⟨rfl, rfl⟩⟩

open Classical in
theorem callE_two {P : Program} {f : Nat} {xs ys xs' ys' : List Int} {c : Int} (hE : Enters P f) (hx : xs ≠ []) (hy : ys ≠ []) (lx : xs'.length ≤ xs.length) (ly : ys'.length ≤ ys.length)
 (H : ∀ (w : World) (b1 b2 c1 c2 : Nat), b1 ≠ b2 → b1 < w.heap.size → b2 < w.heap.size → Holds (Value.int .i64) w b1 0 xs.toArray → Holds (Value.int .i64) w b2 0 ys.toArray → xs.length ≤ c1 → ys.length ≤ c2 →
  Calls P f #[.agg #[.slice (some ⟨b1, 0, none⟩) xs.length c1, .slice (some ⟨b2, 0, none⟩) ys.length c2], .int .i64 c] w fun e w' =>
   e = .returned (.agg #[.slice (some ⟨b1, 0, none⟩) xs'.length c1, .slice (some ⟨b2, 0, none⟩) ys'.length c2]) ∧ Two w w' b1 b2 xs' ys') :
 CallE P 0 f [.ag [.l .own xs.length (encL xs), .l .own ys.length (encL ys)], .one (.s (.int .i64 c))] mem0 mem0 (.ag [.l .shr xs'.length (encL xs'), .l .shr ys'.length (encL ys')]) := by
 refine ⟨hE, fun G w vals hsz hargs hM _ => ?_⟩
 obtain ⟨v0, hv0, hr0⟩ := hargs 0 _ rfl
 obtain ⟨v1, hv1, hr1⟩ := hargs 1 _ rfl
 obtain ⟨vs, rfl, hl, hcs⟩ := hr0
 obtain ⟨x1, h1, r1⟩ := hcs 0 _ rfl
 obtain ⟨x2, h2, r2⟩ := hcs 1 _ rfl
 obtain ⟨rfl, _⟩ := hr1
 obtain ⟨b1, c1, rfl, hc1, ho1, hu1, hb1, hh1⟩ := own_row hx r1
 obtain ⟨b2, c2, rfl, hc2, ho2, hu2, hb2, hh2⟩ := own_row hy r2
 have hne : b1 ≠ b2 := by
  rintro rfl
  rw [ho1] at ho2
  simp at ho2
 have hvs : vs = #[.slice (some ⟨b1, 0, none⟩) xs.length c1, .slice (some ⟨b2, 0, none⟩) ys.length c2] := by
  apply Array.ext_getElem?
  intro i
  match i with
  | 0 => simpa using h1
  | 1 => simpa using h2
  | i + 2 =>
   rw [Array.getElem?_eq_none (by have : vs.size = 2 := by simpa using hl
                                  omega)]
   rfl
 have hvals : vals = #[.agg vs, .int .i64 c] := by
  apply Array.ext_getElem?
  intro i
  match i with
  | 0 => simpa using hv0
  | 1 => simpa using hv1
  | i + 2 =>
   rw [Array.getElem?_eq_none (by have : vals.size = 2 := by simpa using hsz
                                  omega)]
   rfl
 subst hvals
 subst hvs
 refine (H w b1 b2 c1 c2 hne hb1 hb2 hh1 hh2 hc1 hc2).mono fun e w' he => ?_
 obtain ⟨rfl, T⟩ := he
 have ha1 := hM.aged b1 _ ho1
 have ha2 := hM.aged b2 _ ho2
 have ha1 : 1 ≤ G.age b1 := ha1
 have ha2 : 1 ≤ G.age b2 := ha2
 let own' : Nat → Option Tag := fun b => if b = b1 ∨ b = b2 then none else if touch 1 (G.own b) then some .foreign else G.own b
 let G' : Gh := { G with own := own', age := fun _ => 0 }
 have hshape : ∀ b t, own' b = some t → G.own b ≠ none ∧ (t = .foreign ∨ G.own b = some t ∧ ¬ touch 1 (G.own b)) := fun b t hb => by
  simp only [own'] at hb
  split at hb
  ·cases hb
  ·split at hb
   ·rename_i ht
    cases hb
    refine ⟨fun h0 => ?_, .inl rfl⟩
    rw [h0] at ht
    exact ht
   ·rename_i ht
    exact ⟨fun h0 => (by rw [h0] at hb; cases hb), .inr ⟨hb, ht⟩⟩
 refine ⟨_, G', rfl, ?_, ?_, ?_⟩
 ·refine ⟨_, rfl, by simp, fun j c hj => ?_⟩
  match j with
  | 0 =>
   cases hj
   exact ⟨_, rfl, shr_row (n := xs.length) hc1 lx (by simp [G', own']) (by show _ ≤ G.use b1; omega) T.one⟩
  | 1 =>
   cases hj
   exact ⟨_, rfl, shr_row (n := ys.length) hc2 ly (by simp [G', own']) (by show _ ≤ G.use b2; omega) T.two⟩
  | j + 2 => cases hj
 ·exact {
   cells := fun k cs hk => by cases hk
   live := hM.live
   dep := fun k hk => by have := (hM.live k).1 hk; cases this
   wf := fun b t hb => by
    obtain ⟨h1, _⟩ := hshape b t hb
    cases ho : G.own b with
    | none => exact absurd ho h1
    | some t0 => exact Nat.lt_of_lt_of_le (hM.wf b t0 ho) T.size
   wfb := fun b k hb => by
    rcases (hshape b _ hb).2 with h | ⟨h, ht⟩
    ·cases h
    ·rw [h] at ht; exact absurd trivial ht
   wfc := fun b k p hb => by
    rcases (hshape b _ hb).2 with h | ⟨h, ht⟩
    ·cases h
    ·rw [h] at ht; exact absurd trivial ht
   age := fun b => Nat.le_refl _
   fut := fun b _ => rfl
   aged := fun b t hb => by
    rcases (hshape b _ hb).2 with rfl | ⟨h, ht⟩
    ·exact Nat.le_refl _
    ·rw [h] at ht
     cases t with
     | foreign => exact Nat.le_refl _
     | box k => exact absurd trivial ht
     | «at» o p =>
      cases o with
      | slot e i =>
       have ht : ¬ 1 ≤ e := ht
       show e ≤ 0
       omega
      | cell k => exact absurd trivial ht
      | ret => exact absurd trivial ht }
 ·exact {
   size := T.size
   kept := T.kept
   same := fun b hb ht => by
    have n1 : b ≠ b1 := by rintro rfl; rw [ho1] at ht; exact ht (Nat.le_refl _)
    have n2 : b ≠ b2 := by rintro rfl; rw [ho2] at ht; exact ht (Nat.le_refl _)
    refine ⟨T.same b hb n1 n2, ?_, rfl⟩
    show own' b = _
    simp [own', n1, n2, ht]
   age := fun b hb ha => by show 0 = G.age b; omega
   box := fun b hb ha hk k hbk => by
    rcases (hshape b _ hbk).2 with h | ⟨h, ht⟩
    ·cases h
    ·exact hk k h
   use := fun b _ _ => Nat.le_refl _
   cell := fun b off hb ha _ _ => by
    have n1 : b ≠ b1 := by rintro rfl; omega
    have n2 : b ≠ b2 := by rintro rfl; omega
    unfold World.cell?
    simp only [T.same b hb n1 n2]
   live := fun k hk _ => ⟨hk, rfl, rfl⟩
   back := fun _ _ h => h
   up := fun _ _ => Nat.le_refl _ }

def decI (c x : Int) : Int := if c < x then subI x 1 else x
def withoutF (h : THeap) (c : Int) : Option THeap :=
 if h.vars ≠ [] ∧ h.vars.length ≤ 1000000 ∧ h.next.length ≤ 1000000 ∧ 0 ≤ c ∧ c < (h.next.length : Int) then some ⟨h.vars.map (decI c), ((h.next.take c.toNat) ++ h.next.drop (c.toNat + 1)).map (decI c)⟩ else none

open Classical in
def specOS {X R : Type} [OArgs X] [Enc R] (F : X → Option R) : List AV → Option AV := fun as => if h : ∃ x, OArgs.args x = as then (F (Classical.choose h)).map (av .shr) else none
theorem specOS_eq {X R : Type} [OArgs X] [Enc R] {F : X → Option R} {x : X} {y : R} (h : F x = some y) : specOS F (OArgs.args x) = some (av .shr y) := by
 unfold specOS
 have hx : ∃ z, OArgs.args z = OArgs.args x := ⟨x, rfl⟩
 rw [dif_pos hx, OArgs.inj _ _ (Classical.choose_spec hx), h]
 rfl

theorem po_without {P : Program} {f : Nat} (hE : Enters P f)
 (H : ∀ (xs ys : List Int) (c : Nat) (w : World) (b1 b2 c1 c2 : Nat), xs.length ≤ 1000000 → ys.length ≤ 1000000 → c < ys.length → b1 ≠ b2 → b1 < w.heap.size → b2 < w.heap.size → Holds (Value.int .i64) w b1 0 xs.toArray → Holds (Value.int .i64) w b2 0 ys.toArray → xs.length ≤ c1 → ys.length ≤ c2 →
  Calls P f #[.agg #[.slice (some ⟨b1, 0, none⟩) xs.length c1, .slice (some ⟨b2, 0, none⟩) ys.length c2], .int .i64 c] w fun e w' =>
   e = .returned (.agg #[.slice (some ⟨b1, 0, none⟩) xs.length c1, .slice (some ⟨b2, 0, none⟩) (ys.length - 1) c2]) ∧ Two w w' b1 b2 (xs.map (decI c)) ((ys.take c ++ ys.drop (c + 1)).map (decI c))) :
 PO P f (specOS (X := THeap × Int × Unit) fun x => withoutF x.1 x.2.1) := by
 intro args r hF d mem hdep hB
 unfold specOS at hF
 split at hF
 ·rename_i hx
  obtain ⟨y, hy, rfl⟩ := Option.map_eq_some_iff.1 hF
  have hs := Classical.choose_spec hx
  generalize Classical.choose hx = x at hy hs
  subst hs
  obtain ⟨⟨xs, ys⟩, c, _⟩ := x
  simp only [withoutF] at hy
  split at hy
  ·rename_i hc
   obtain ⟨k1, k2, k3, k4, k5⟩ := hc
   cases hy
   have hd := OArgs.data ((⟨xs, ys⟩, c, ()) : THeap × Int × Unit)
   obtain ⟨n, rfl⟩ := Int.eq_ofNat_of_zero_le k4
   have hlen : ((ys.take n ++ ys.drop (n + 1)).map (decI n)).length = ys.length - 1 := by simp; omega
   have hn : n < ys.length := by omega
   refine po_call (callE_two (xs := xs) (ys := ys) (xs' := xs.map (decI n)) (ys' := (ys.take n ++ ys.drop (n + 1)).map (decI n)) (c := n) hE k1 (by rintro rfl; simp at hn) (by simp) (by omega) fun w b1 b2 c1 c2 h1 h2 h3 h4 h5 h6 h7 => ?_) hd (.inr ?_) hdep hB
   ·rw [hlen, List.length_map]
    exact H xs ys n w b1 b2 c1 c2 k2 k3 hn h1 h2 h3 h4 h5 h6 h7
   ·rfl
  ·cases hy
 ·cases hF
structure WJ (w wr : World) (b1 b2 hb rb g : Nat) (s1 s2 : Value) (d1 d2 : Array Int) : Prop where
 h1 : Holds (Value.int .i64) wr b1 0 d1
 h2 : Holds (Value.int .i64) wr b2 0 d2
 hh0 : wr.cell? ⟨hb, 0, none⟩ = some s1
 hh1 : wr.cell? ⟨hb, 1, none⟩ = some s2
 hg0 : wr.cell? ⟨g, 0, none⟩ = some s1
 hg1 : wr.cell? ⟨g, 1, none⟩ = some s2
 hr : ∃ z0 z1 ty, wr.heap[rb]? = some (.cells #[z0, z1] ty (0, 0))
 size : w.heap.size ≤ wr.heap.size
 kept : Kept w wr
 same : ∀ b, b < w.heap.size → b ≠ b1 → b ≠ b2 → wr.heap[b]? = w.heap[b]?

def decTo (c : Int) (d : Array Int) (i : Nat) : Array Int := (((d.toList.take i).map (decI c)) ++ d.toList.drop i).toArray
theorem decTo_zero (c : Int) (d : Array Int) : decTo c d 0 = d := by simp [decTo]
theorem decTo_size (c : Int) (d : Array Int) (i : Nat) : (decTo c d i).size = d.size := by simp [decTo]; omega
theorem decTo_at (c : Int) (d : Array Int) (i : Nat) (h : i < d.size) : (decTo c d i)[i]! = d[i]! := by
 rw [getElem!_pos (decTo c d i) i (by rw [decTo_size]; exact h), getElem!_pos d i h]
 simp only [decTo, List.getElem_toArray]
 rw [List.getElem_append_right (by simp; omega)]
 have : i + (i - min i d.size) = i := by omega
 simp [this]
theorem decTo_succ (c : Int) (d : Array Int) (i : Nat) (h : i < d.size) : (decTo c d i).setIfInBounds i (decI c d[i]!) = decTo c d (i + 1) := by
 apply Array.ext_getElem?
 intro t
 rw [Array.getElem?_setIfInBounds, decTo_size, getElem!_pos d i h]
 simp only [decTo, List.getElem?_toArray]
 by_cases h1 : i = t
 ·subst h1
  rw [if_pos rfl, if_pos h, List.getElem?_append_left (by simp; omega)]
  simp [h]
 ·rw [if_neg h1]
  by_cases h2 : t < i
  ·rw [List.getElem?_append_left (by simp; omega), List.getElem?_append_left (by simp; omega)]
   simp [List.getElem?_take, h2, Nat.lt_succ_of_lt h2]
  ·rw [List.getElem?_append_right (by simp; omega), List.getElem?_append_right (by simp; omega)]
   simp [List.getElem?_drop]
   congr 1
   omega
theorem setI_same (d : Array Int) (i : Nat) : d.setIfInBounds i d[i]! = d := by
 apply Array.ext_getElem?
 intro t
 rw [Array.getElem?_setIfInBounds]
 by_cases h : i = t
 ·subst h
  by_cases hl : i < d.size
  ·rw [if_pos rfl, if_pos hl, getElem!_pos d i hl, Array.getElem?_eq_getElem hl]
  ·rw [if_pos rfl, if_neg hl, Array.getElem?_eq_none (by omega)]
 ·rw [if_neg h]
theorem decTo_all (c : Int) (d : Array Int) : decTo c d d.size = (d.toList.map (decI c)).toArray := by
 have h1 : List.take d.size d.toList = d.toList := List.take_of_length_le (by simp)
 have h2 : List.drop d.size d.toList = [] := List.drop_eq_nil_of_le (by simp)
 rw [decTo, h1, h2, List.append_nil]

theorem WJ.set1 {w wr : World} {b1 b2 hb rb g : Nat} {s1 s2 : Value} {d1 d2 : Array Int} (h : WJ w wr b1 b2 hb rb g s1 s2 d1 d2) (n1 : b1 ≠ b2) (n2 : hb ≠ b1) (n3 : rb ≠ b1) (n4 : g ≠ b1) {i : Nat} (hi : i < d1.size) (x : Int) :
 WJ w (wr.setCell ⟨b1, 0 + i, none⟩ (.int .i64 x)) b1 b2 hb rb g s1 s2 (d1.setIfInBounds i x) d2 := by
 have e : wr.setCell ⟨b1, 0 + i, none⟩ (.int .i64 x) = putRow (Value.int .i64) wr b1 0 (d1.setIfInBounds i x) := by
  have := putRow_set (Value.int .i64) wr b1 0 d1 i x hi
  rwa [putRow_self _ _ _ _ _ h.h1] at this
 have oth : ∀ b o, b ≠ b1 → (putRow (Value.int .i64) wr b1 0 (d1.setIfInBounds i x)).cell? ⟨b, o, none⟩ = wr.cell? ⟨b, o, none⟩ := fun b o hb => cell?_putRow_other _ _ _ _ _ _ (.inl hb)
 rw [e]
 refine ⟨holds_putRow _ _ _ _ d1 _ h.h1 (by simp), fun j hj => ⟨?_, by rw [frozen?_putRow]; exact (h.h2 j hj).2⟩, ?_, ?_, ?_, ?_, ?_, by rw [size_putRow]; exact h.size, ?_, fun b hb' q1 q2 => ?_⟩
 ·rw [oth _ _ n1.symm]; exact (h.h2 j hj).1
 ·rw [oth _ _ n2]; exact h.hh0
 ·rw [oth _ _ n2]; exact h.hh1
 ·rw [oth _ _ n4]; exact h.hg0
 ·rw [oth _ _ n4]; exact h.hg1
 ·obtain ⟨z0, z1, ty, hz⟩ := h.hr
  refine ⟨z0, z1, ty, ?_⟩
  rw [← hz]
  simp only [putRow, mapBlock, Array.getElem?_modify, if_neg (Ne.symm n3)]
 ·exact h.kept.trans ⟨⟨rfl, rfl, rfl⟩, fun a ha => ⟨by rwa [size_putRow], frozen?_putRow _ _ _ _ _ _⟩⟩
 ·rw [← h.same b hb' q1 q2]
  simp only [putRow, mapBlock, Array.getElem?_modify, if_neg (Ne.symm q1)]
theorem heapA (w : World) (o : Obj) {b : Nat} (h : b < w.heap.size) : (w.alloc o).heap[b]? = w.heap[b]? := by
 show (w.heap.push o)[b]? = _
 rw [Array.getElem?_push, if_neg (by omega)]
theorem heapN (w : World) (o : Obj) {n : Nat} (h : n = w.heap.size) : (w.alloc o).heap[n]? = some o := by
 subst h
 show (w.heap.push o)[w.heap.size]? = _
 simp
theorem cellH {w : World} {b i : Nat} {cs : Array Value} {ty : TypeId} (h : w.heap[b]? = some (.cells cs ty (0, 0))) : w.cell? ⟨b, i, none⟩ = cs[i]? ∧ w.frozen? ⟨b, i, none⟩ = false := by
 refine ⟨?_, by simp [World.frozen?, h]⟩
 unfold World.cell?
 simp [h]
theorem WJ.start {w : World} {b1 b2 q : Nat} {s1 s2 s2' z1 z2 : Value} {d1 d2 d2' : Array Int} {ty ty' : TypeId} (hne : b1 ≠ b2) (hb1 : b1 < w.heap.size) (hb2 : b2 < w.heap.size) (H1 : Holds (Value.int .i64) w b1 0 d1) (H2 : Holds (Value.int .i64) w b2 0 d2) (hd : d2'.size = d2.size)
 {W : World} (hW : W = putRow (Value.int .i64) (Sort.ahead ((w.alloc (.cells #[s1, s2] ty)).alloc (.cells #[z1, z2] ty)) q) b2 0 d2') :
 (W.cell? ⟨w.heap.size, 0, none⟩ = some s1 ∧ W.cell? ⟨w.heap.size, 1, none⟩ = some s2 ∧ W.frozen? ⟨w.heap.size, 1, none⟩ = false ∧ W.heap.size = w.heap.size + 2) ∧
 WJ w ((W.setCell ⟨w.heap.size, 1, none⟩ s2').alloc (.cells #[s1, s2'] ty')) b1 b2 w.heap.size (w.heap.size + 1) (w.heap.size + 2) s1 s2' d1 d2' := by
 have hsz : W.heap.size = w.heap.size + 2 := by rw [hW, size_putRow]; simp [Sort.ahead]
 have hp : ∀ b, b ≠ b2 → W.heap[b]? = ((w.alloc (.cells #[s1, s2] ty)).alloc (.cells #[z1, z2] ty)).heap[b]? := fun b hb => by
  rw [hW]
  simp only [putRow, mapBlock, Array.getElem?_modify, if_neg (Ne.symm hb)]
  rfl
 have h0 : W.heap[w.heap.size]? = some (.cells #[s1, s2] ty (0, 0)) := by rw [hp _ (by omega), heapA _ _ (by simp), heapN _ _ rfl]
 have h1 : W.heap[w.heap.size + 1]? = some (.cells #[z1, z2] ty (0, 0)) := by rw [hp _ (by omega), heapN _ _ (by simp)]
 have hold : ∀ b, b < w.heap.size → b ≠ b2 → W.heap[b]? = w.heap[b]? := fun b hb hn => by rw [hp b hn, heapA _ _ (by simp; omega), heapA _ _ hb]
 have hV : ∀ b, b ≠ w.heap.size → b < w.heap.size + 2 → ((W.setCell ⟨w.heap.size, 1, none⟩ s2').alloc (.cells #[s1, s2'] ty')).heap[b]? = W.heap[b]? := fun b hb hl => by
  rw [heapA _ _ (by rw [World.size_setCell, hsz]; exact hl)]
  simp only [World.setCell, Array.getElem?_modify]
  rw [if_neg (Ne.symm hb)]
 have hV0 : ((W.setCell ⟨w.heap.size, 1, none⟩ s2').alloc (.cells #[s1, s2'] ty')).heap[w.heap.size]? = some (.cells #[s1, s2'] ty (0, 0)) := by
  rw [heapA _ _ (by rw [World.size_setCell, hsz]; omega)]
  simp only [World.setCell, Array.getElem?_modify, h0, if_true]
  rfl
 have hVg : ((W.setCell ⟨w.heap.size, 1, none⟩ s2').alloc (.cells #[s1, s2'] ty')).heap[w.heap.size + 2]? = some (.cells #[s1, s2'] ty' (0, 0)) := heapN _ _ (by rw [World.size_setCell, hsz])
 have hVs : ((W.setCell ⟨w.heap.size, 1, none⟩ s2').alloc (.cells #[s1, s2'] ty')).heap.size = w.heap.size + 3 := by simp [hsz]
 have hH2 : Holds (Value.int .i64) W b2 0 d2' := by
  rw [hW]
  refine holds_putRow _ _ _ _ d2 _ ?_ hd
  intro j hj
  have hf : ((w.alloc (.cells #[s1, s2] ty)).alloc (.cells #[z1, z2] ty)).heap[b2]? = w.heap[b2]? := by rw [heapA _ _ (by simp; omega), heapA _ _ hb2]
  have := H2 j hj
  unfold World.cell? World.frozen? at *
  simp only [Sort.ahead, hf] at *
  exact this
 have move : ∀ (X Y : World) (b : Nat) (d : Array Int), Y.heap[b]? = X.heap[b]? → Holds (Value.int .i64) X b 0 d → Holds (Value.int .i64) Y b 0 d := fun X Y b d he hX j hj => by
  have := hX j hj
  unfold World.cell? World.frozen? at *
  simp only [he] at *
  exact this
 refine ⟨⟨(cellH h0).1, (cellH h0).1, (cellH h0).2, hsz⟩, ?_⟩
 refine ⟨move w _ b1 d1 (by rw [hV b1 (by omega) (by omega), hold b1 hb1 hne]) H1, move W _ b2 d2' (hV b2 (by omega) (by omega)) hH2, (cellH hV0).1, (cellH hV0).1, (cellH hVg).1, (cellH hVg).1, ⟨_, _, _, (hV (w.heap.size + 1) (by omega) (by omega)).trans h1⟩, by rw [hVs]; omega, ?_, fun b hb n1 n2 => by rw [hV b (by omega) (by omega), hold b hb n2]⟩
 ·refine ⟨by rw [hW]; exact ⟨rfl, rfl, rfl⟩, fun a ha => ⟨by rw [hVs]; omega, ?_⟩⟩
  by_cases hb : a.block = b2
  ·have e1 : ((W.setCell ⟨w.heap.size, 1, none⟩ s2').alloc (.cells #[s1, s2'] ty')).frozen? a = W.frozen? a := by
    unfold World.frozen?
    rw [hV a.block (by omega) (by omega)]
   rw [e1, hW, frozen?_putRow]
   unfold World.frozen?
   simp only [Sort.ahead]
   rw [heapA _ _ (by simp; omega), heapA _ _ ha]
  ·unfold World.frozen?
   rw [hV a.block (by omega) (by omega), hold a.block ha hb]
theorem WJ.swap {w wr : World} {b1 b2 hb rb g : Nat} {s1 s2 : Value} {d1 d2 : Array Int} (h : WJ w wr b1 b2 hb rb g s1 s2 d1 d2) (n1 : b1 ≠ b2) (n2 : hb ≠ b2) (n3 : rb ≠ b2) (n4 : g ≠ b2) {i : Nat} (hi : i < d2.size) (x : Int) :
 WJ w (wr.setCell ⟨b2, 0 + i, none⟩ (.int .i64 x)) b1 b2 hb rb g s1 s2 d1 (d2.setIfInBounds i x) := by
 have e : wr.setCell ⟨b2, 0 + i, none⟩ (.int .i64 x) = putRow (Value.int .i64) wr b2 0 (d2.setIfInBounds i x) := by
  have := putRow_set (Value.int .i64) wr b2 0 d2 i x hi
  rwa [putRow_self _ _ _ _ _ h.h2] at this
 have oth : ∀ b o, b ≠ b2 → (putRow (Value.int .i64) wr b2 0 (d2.setIfInBounds i x)).cell? ⟨b, o, none⟩ = wr.cell? ⟨b, o, none⟩ := fun b o hb => cell?_putRow_other _ _ _ _ _ _ (.inl hb)
 rw [e]
 refine ⟨fun j hj => ⟨?_, by rw [frozen?_putRow]; exact (h.h1 j hj).2⟩, holds_putRow _ _ _ _ d2 _ h.h2 (by simp), ?_, ?_, ?_, ?_, ?_, by rw [size_putRow]; exact h.size, ?_, fun b hb' q1 q2 => ?_⟩
 ·rw [oth _ _ n1]; exact (h.h1 j hj).1
 ·rw [oth _ _ n2]; exact h.hh0
 ·rw [oth _ _ n2]; exact h.hh1
 ·rw [oth _ _ n4]; exact h.hg0
 ·rw [oth _ _ n4]; exact h.hg1
 ·obtain ⟨z0, z1, ty, hz⟩ := h.hr
  refine ⟨z0, z1, ty, ?_⟩
  rw [← hz]
  simp only [putRow, mapBlock, Array.getElem?_modify, if_neg (Ne.symm n3)]
 ·exact h.kept.trans ⟨⟨rfl, rfl, rfl⟩, fun a ha => ⟨by rwa [size_putRow], frozen?_putRow _ _ _ _ _ _⟩⟩
 ·rw [← h.same b hb' q1 q2]
  simp only [putRow, mapBlock, Array.getElem?_modify, if_neg (Ne.symm q2)]
theorem WJ.done {w wr : World} {b1 b2 hb rb g c : Nat} {s1 s2 : Value} {d1 D2 : Array Int} {L : List Int} (h : WJ w wr b1 b2 hb rb g s1 s2 (decTo c d1 d1.size) (decTo c D2 L.length)) (hD : D2 = (L ++ [0]).toArray) (n1 : b1 ≠ rb) (n2 : b2 ≠ rb) (n3 : w.heap.size ≤ rb) :
 (∃ ty, ((wr.setCell ⟨rb, 0, none⟩ s1).setCell ⟨rb, 1, none⟩ s2).heap[rb]? = some (.cells #[s1, s2] ty (0, 0))) ∧ Two w ((wr.setCell ⟨rb, 0, none⟩ s1).setCell ⟨rb, 1, none⟩ s2) b1 b2 (d1.toList.map (decI c)) (L.map (decI c)) := by
 obtain ⟨z0, z1, ty, hz⟩ := h.hr
 have oth : ∀ b, b ≠ rb → ((wr.setCell ⟨rb, 0, none⟩ s1).setCell ⟨rb, 1, none⟩ s2).heap[b]? = wr.heap[b]? := fun b hb => by
  simp only [World.setCell, Array.getElem?_modify, if_neg (Ne.symm hb)]
 refine ⟨⟨ty, ?_⟩, by simp; exact h.size, ?_, fun b hb q1 q2 => by rw [oth b (by omega)]; exact h.same b hb q1 q2, fun i x hi => ?_, fun i x hi => ?_⟩
 ·simp only [World.setCell, Array.getElem?_modify, hz, if_true, Option.map_some]
  rfl
 ·exact h.kept.trans ⟨⟨rfl, rfl, rfl⟩, fun a ha => ⟨by simpa using ha, by simp⟩⟩
 ·have hlt : i < d1.size := by
   have := (List.getElem?_eq_some_iff.1 hi).1
   simpa using this
  have := (h.h1 i (by rw [decTo_size]; exact hlt)).1
  rw [decTo_all, Nat.zero_add] at this
  have e : ((d1.toList.map (decI c)).toArray)[i]! = x := by
   rw [getElem!_pos _ i (by simpa using hlt)]
   have := (List.getElem?_eq_some_iff.1 hi).2
   simpa using this
  rw [e] at this
  rw [← this]
  unfold World.cell?
  simp only [oth b1 n1]
 ·have hlt : i < L.length := by
   have := (List.getElem?_eq_some_iff.1 hi).1
   simpa using this
  have := (h.h2 i (by rw [decTo_size, hD]; simp; omega)).1
  rw [Nat.zero_add] at this
  have e : (decTo c D2 L.length)[i]! = x := by
   rw [getElem!_pos _ i (by rw [decTo_size, hD]; simp; omega)]
   have hx := (List.getElem?_eq_some_iff.1 hi).2
   simp only [decTo, hD, List.getElem_toArray]
   rw [List.getElem_append_left (by simp; omega)]
   simpa [List.getElem_append_left hlt] using hx
  rw [e] at this
  rw [← this]
  unfold World.cell?
  simp only [oth b2 n2]
end Go.Ev


namespace Go.Ev
end Go.Ev

