import Derived.Test.YtahcfnjgllpkdaaEvGen
set_option linter.unusedSimpArgs false
set_option linter.unusedVariables false
set_option linter.unnecessarySimpa false
namespace Go.Ev
open Enc (enc)
theorem enc_app {α : Type} [Enc α] {a b : α} {u v : List D} (h : enc a ++ u = enc b ++ v) : a = b ∧ u = v := by
  obtain ⟨h1, h2⟩ := List.append_inj h (by rw [Enc.len, Enc.len])
  exact ⟨Enc.inj _ _ h1, h2⟩

structure TStmt where
  kind : Int
  a : ByteArray
  b : ByteArray
instance : Enc TStmt where
  sz := 3
  agg := true
  enc x := enc x.kind ++ (enc x.a ++ (enc x.b ++ ([])))
  len x := by simp [Enc.len]
  pos := by decide
  one h := by cases h
  inj x y h := by
    cases x; cases y
    obtain ⟨rfl, h⟩ := enc_app h
    obtain ⟨rfl, h⟩ := enc_app h
    obtain ⟨rfl, h⟩ := enc_app h
    rfl
@[simp] theorem enc_TStmt (x : TStmt) : enc x = enc x.kind ++ (enc x.a ++ (enc x.b ++ ([]))) := rfl
@[simp] theorem sz_TStmt : Enc.sz TStmt = 3 := rfl
@[simp] theorem agg_TStmt : Enc.agg TStmt = true := rfl

instance : ScEnc TStmt := ⟨fun _ => rfl⟩
def eqTStmt (x y : TStmt) : Bool := x.kind == y.kind && x.a == y.a && x.b == y.b
def neTStmt (x y : TStmt) : Bool := !eqTStmt x y

structure TEdge where
  from_ : Int
  to_ : Int
  stmt : TStmt
instance : Enc TEdge where
  sz := 5
  agg := true
  enc x := enc x.from_ ++ (enc x.to_ ++ (enc x.stmt ++ ([])))
  len x := by simp [Enc.len]
  pos := by decide
  one h := by cases h
  inj x y h := by
    cases x; cases y
    obtain ⟨rfl, h⟩ := enc_app h
    obtain ⟨rfl, h⟩ := enc_app h
    obtain ⟨rfl, h⟩ := enc_app h
    rfl
@[simp] theorem enc_TEdge (x : TEdge) : enc x = enc x.from_ ++ (enc x.to_ ++ (enc x.stmt ++ ([]))) := rfl
@[simp] theorem sz_TEdge : Enc.sz TEdge = 5 := rfl
@[simp] theorem agg_TEdge : Enc.agg TEdge = true := rfl

instance : ScEnc TEdge := ⟨fun _ => rfl⟩
def eqTEdge (x y : TEdge) : Bool := x.from_ == y.from_ && x.to_ == y.to_ && eqTStmt x.stmt y.stmt
def neTEdge (x y : TEdge) : Bool := !eqTEdge x y

structure TProgram where
  vars : (List ByteArray)
  points : Int
  edges : (List TEdge)
instance : Enc TProgram where
  sz := 3
  agg := true
  enc x := enc x.vars ++ (enc x.points ++ (enc x.edges ++ ([])))
  len x := by simp [Enc.len]
  pos := by decide
  one h := by cases h
  inj x y h := by
    cases x; cases y
    obtain ⟨rfl, h⟩ := enc_app h
    obtain ⟨rfl, h⟩ := enc_app h
    obtain ⟨rfl, h⟩ := enc_app h
    rfl
@[simp] theorem enc_TProgram (x : TProgram) : enc x = enc x.vars ++ (enc x.points ++ (enc x.edges ++ ([]))) := rfl
@[simp] theorem sz_TProgram : Enc.sz TProgram = 3 := rfl
@[simp] theorem agg_TProgram : Enc.agg TProgram = true := rfl

structure THeap where
  vars : (List Int)
  next : (List Int)
instance : Enc THeap where
  sz := 2
  agg := true
  enc x := enc x.vars ++ (enc x.next ++ ([]))
  len x := by simp [Enc.len]
  pos := by decide
  one h := by cases h
  inj x y h := by
    cases x; cases y
    obtain ⟨rfl, h⟩ := enc_app h
    obtain ⟨rfl, h⟩ := enc_app h
    rfl
@[simp] theorem enc_THeap (x : THeap) : enc x = enc x.vars ++ (enc x.next ++ ([])) := rfl
@[simp] theorem sz_THeap : Enc.sz THeap = 2 := rfl
@[simp] theorem agg_THeap : Enc.agg THeap = true := rfl

structure TSession where
  prog : TProgram
  start : (List THeap)
instance : Enc TSession where
  sz := 4
  agg := true
  enc x := enc x.prog ++ (enc x.start ++ ([]))
  len x := by simp [Enc.len]
  pos := by decide
  one h := by cases h
  inj x y h := by
    cases x; cases y
    obtain ⟨rfl, h⟩ := enc_app h
    obtain ⟨rfl, h⟩ := enc_app h
    rfl
@[simp] theorem enc_TSession (x : TSession) : enc x = enc x.prog ++ (enc x.start ++ ([])) := rfl
@[simp] theorem sz_TSession : Enc.sz TSession = 4 := rfl
@[simp] theorem agg_TSession : Enc.agg TSession = true := rfl

structure TNode where
  vars : (List Int)
  reach : (List Int)
  shared : Int
  many : Int
instance : Enc TNode where
  sz := 4
  agg := true
  enc x := enc x.vars ++ (enc x.reach ++ (enc x.shared ++ (enc x.many ++ ([]))))
  len x := by simp [Enc.len]
  pos := by decide
  one h := by cases h
  inj x y h := by
    cases x; cases y
    obtain ⟨rfl, h⟩ := enc_app h
    obtain ⟨rfl, h⟩ := enc_app h
    obtain ⟨rfl, h⟩ := enc_app h
    obtain ⟨rfl, h⟩ := enc_app h
    rfl
@[simp] theorem enc_TNode (x : TNode) : enc x = enc x.vars ++ (enc x.reach ++ (enc x.shared ++ (enc x.many ++ ([])))) := rfl
@[simp] theorem sz_TNode : Enc.sz TNode = 4 := rfl
@[simp] theorem agg_TNode : Enc.agg TNode = true := rfl

structure TStructure where
  nodes : (List TNode)
  next : (List Int)
instance : Enc TStructure where
  sz := 2
  agg := true
  enc x := enc x.nodes ++ (enc x.next ++ ([]))
  len x := by simp [Enc.len]
  pos := by decide
  one h := by cases h
  inj x y h := by
    cases x; cases y
    obtain ⟨rfl, h⟩ := enc_app h
    obtain ⟨rfl, h⟩ := enc_app h
    rfl
@[simp] theorem enc_TStructure (x : TStructure) : enc x = enc x.nodes ++ (enc x.next ++ ([])) := rfl
@[simp] theorem sz_TStructure : Enc.sz TStructure = 2 := rfl
@[simp] theorem agg_TStructure : Enc.agg TStructure = true := rfl

end Go.Ev
