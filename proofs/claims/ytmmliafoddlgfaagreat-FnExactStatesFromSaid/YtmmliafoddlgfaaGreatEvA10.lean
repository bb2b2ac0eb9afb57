import Derived.Test.YtmmliafoddlgfaaGreatEvA7
import Derived.Test.YtmmliafoddlgfaaGreatEvA8
import Derived.Test.YtmmliafoddlgfaaGreatEvA9
set_option linter.unusedSimpArgs false
set_option linter.unusedVariables false
set_option linter.unnecessarySimpa false
noncomputable section
namespace Go.Ev
def impl_Heap_without (h : THeap) (c : Int) : Option THeap := withoutF h c

def slices_Clone_int (s : (List Int)) : Option (List Int) := lib_Clone 8 s

def slices_Concat_int (s : (List (List Int))) : Option (List Int) := lib_Concat 8 s

def laws_szStringS (a_ : (List ByteArray)) (left : Int) : Option (Int) :=
 cond (ltI (subI left (a_.length : Int)) 0)
 (some (-1))
 ((iter (ρ := (Int) ⊕ (Int)) (fun s_2 : Int × Int =>
 cond (ltI s_2.2 (a_.length : Int))
 ((at? a_ s_2.2).bind fun e_10 =>
 cond (ltI (subI s_2.1 (e_10.size : Int)) 0)
 (some (.inr (.inl (-1))))
 (some (.inl (subI s_2.1 (e_10.size : Int), addI s_2.2 1))))
 (some (.inr (.inr s_2.1)))) (subI left (a_.length : Int), 0)).bind fun r_16 =>
 Sum.elim (fun r_16 =>
 some r_16)
 (fun r_16 =>
 some r_16) r_16)

def laws_szStmt (a_ : TStmt) (left : Int) : Option (Int) :=
 cond (ltI (subI left (a_.a.size : Int)) 0)
 (some (-1))
 (cond (ltI (subI (subI left (a_.a.size : Int)) (a_.b.size : Int)) 0)
 (some (-1))
 (some (subI (subI left (a_.a.size : Int)) (a_.b.size : Int))))

def laws_szEdge (a_ : TEdge) (left : Int) : Option (Int) :=
 (laws_szStmt a_.stmt left).bind fun y_1 =>
 cond (ltI y_1 0)
 (some (-1))
 (some y_1)

def laws_szEdgeS (a_ : (List TEdge)) (left : Int) : Option (Int) :=
 cond (ltI (subI left (a_.length : Int)) 0)
 (some (-1))
 ((iter (ρ := (Int) ⊕ (Int)) (fun s_2 : Int × Int =>
 cond (ltI s_2.2 (a_.length : Int))
 ((at? a_ s_2.2).bind fun e_10 =>
 (laws_szEdge e_10 s_2.1).bind fun y_15 =>
 cond (ltI y_15 0)
 (some (.inr (.inl (-1))))
 (some (.inl (y_15, addI s_2.2 1))))
 (some (.inr (.inr s_2.1)))) (subI left (a_.length : Int), 0)).bind fun r_19 =>
 Sum.elim (fun r_19 =>
 some r_19)
 (fun r_19 =>
 some r_19) r_19)

def laws_szProgram (a_ : TProgram) (left : Int) : Option (Int) :=
 (laws_szStringS a_.vars left).bind fun y_1 =>
 cond (ltI y_1 0)
 (some (-1))
 ((laws_szEdgeS a_.edges y_1).bind fun y_5 =>
 cond (ltI y_5 0)
 (some (-1))
 (some y_5))

def laws_szIntS (a_ : (List Int)) (left : Int) : Option (Int) :=
 cond (ltI (subI left (a_.length : Int)) 0)
 (some (-1))
 (some (subI left (a_.length : Int)))

def laws_szHeap (a_ : THeap) (left : Int) : Option (Int) :=
 (laws_szIntS a_.vars left).bind fun y_1 =>
 cond (ltI y_1 0)
 (some (-1))
 ((laws_szIntS a_.next y_1).bind fun y_5 =>
 cond (ltI y_5 0)
 (some (-1))
 (some y_5))

def laws_szHeapS (a_ : (List THeap)) (left : Int) : Option (Int) :=
 cond (ltI (subI left (a_.length : Int)) 0)
 (some (-1))
 ((iter (ρ := (Int) ⊕ (Int)) (fun s_2 : Int × Int =>
 cond (ltI s_2.2 (a_.length : Int))
 ((at? a_ s_2.2).bind fun e_10 =>
 (laws_szHeap e_10 s_2.1).bind fun y_15 =>
 cond (ltI y_15 0)
 (some (.inr (.inl (-1))))
 (some (.inl (y_15, addI s_2.2 1))))
 (some (.inr (.inr s_2.1)))) (subI left (a_.length : Int), 0)).bind fun r_19 =>
 Sum.elim (fun r_19 =>
 some r_19)
 (fun r_19 =>
 some r_19) r_19)

def laws_toStringS (a_ : (List ByteArray)) : Option ((List ByteArray)) :=
 (roomI (a_.length : Int) 16).bind fun _ =>
 (iter (ρ := (List ByteArray)) (fun s_5 : Int × (List ByteArray) =>
 cond (ltI s_5.1 (a_.length : Int))
 ((at? a_ s_5.1).bind fun e_13 =>
 (at? s_5.2 s_5.1).bind fun e_18 =>
 some (.inl (addI s_5.1 1, s_5.2.set s_5.1.toNat e_13)))
 (some (.inr s_5.2))) (0, List.replicate (a_.length : Int).toNat (ByteArray.empty : ByteArray))).bind fun r_24 =>
 some r_24

def laws_toStmt (a_ : TStmt) : Option (TStmt) :=
 some a_

def laws_toEdge (a_ : TEdge) : Option (TEdge) :=
 (laws_toStmt a_.stmt).bind fun y_1 =>
 some (⟨a_.from_, a_.to_, y_1⟩ : TEdge)

def laws_toEdgeS (a_ : (List TEdge)) : Option ((List TEdge)) :=
 (roomI (a_.length : Int) 56).bind fun _ =>
 (iter (ρ := (List TEdge)) (fun s_5 : Int × (List TEdge) =>
 cond (ltI s_5.1 (a_.length : Int))
 ((at? a_ s_5.1).bind fun e_13 =>
 (laws_toEdge e_13).bind fun y_18 =>
 (at? s_5.2 s_5.1).bind fun e_21 =>
 some (.inl (addI s_5.1 1, s_5.2.set s_5.1.toNat y_18)))
 (some (.inr s_5.2))) (0, List.replicate (a_.length : Int).toNat ((⟨0, 0, (⟨0, ByteArray.empty, ByteArray.empty⟩ : TStmt)⟩ : TEdge) : TEdge))).bind fun r_27 =>
 some r_27

def laws_toProgram (a_ : TProgram) : Option (TProgram) :=
 (laws_toStringS a_.vars).bind fun y_1 =>
 (laws_toEdgeS a_.edges).bind fun y_4 =>
 some (⟨y_1, a_.points, y_4⟩ : TProgram)

def laws_toIntS (a_ : (List Int)) : Option ((List Int)) :=
 (roomI (a_.length : Int) 8).bind fun _ =>
 (iter (ρ := (List Int)) (fun s_5 : Int × (List Int) =>
 cond (ltI s_5.1 (a_.length : Int))
 ((at? a_ s_5.1).bind fun e_13 =>
 (at? s_5.2 s_5.1).bind fun e_18 =>
 some (.inl (addI s_5.1 1, s_5.2.set s_5.1.toNat e_13)))
 (some (.inr s_5.2))) (0, List.replicate (a_.length : Int).toNat (0 : Int))).bind fun r_24 =>
 some r_24

def laws_toHeap (a_ : THeap) : Option (THeap) :=
 (laws_toIntS a_.vars).bind fun y_1 =>
 (laws_toIntS a_.next).bind fun y_4 =>
 some (⟨y_1, y_4⟩ : THeap)

def laws_toHeapS (a_ : (List THeap)) : Option ((List THeap)) :=
 (roomI (a_.length : Int) 48).bind fun _ =>
 (iter (ρ := (List THeap)) (fun s_5 : Int × (List THeap) =>
 cond (ltI s_5.1 (a_.length : Int))
 ((at? a_ s_5.1).bind fun e_13 =>
 (laws_toHeap e_13).bind fun y_18 =>
 (at? s_5.2 s_5.1).bind fun e_21 =>
 some (.inl (addI s_5.1 1, s_5.2.set s_5.1.toNat y_18)))
 (some (.inr s_5.2))) (0, List.replicate (a_.length : Int).toNat ((⟨[], []⟩ : THeap) : THeap))).bind fun r_27 =>
 some r_27

def spec_l1In (x_ : Int) (lo : Int) (hi : Int) : Option (Bool) :=
 cond (leI lo x_)
 (some (leI x_ hi))
 (some false)

def spec_NamesOf (kind : Int) : Option (Int) :=
 cond (eqI kind 1)
 (some 0)
 (cond (eqI kind 2)
 (some 1)
 (cond (eqI kind 3)
 (some 1)
 (cond (eqI kind 6)
 (some 1)
 (cond (eqI kind 8)
 (some 1)
 (cond (eqI kind 9)
 (some 1)
 (cond (eqI kind 10)
 (some 1)
 (cond (eqI kind 4)
 (some 2)
 (cond (eqI kind 5)
 (some 2)
 (cond (eqI kind 7)
 (some 2)
 (cond (eqI kind 11)
 (some 2)
 (cond (eqI kind 12)
 (some 2)
 (some (-1)))))))))))))

def spec_IsName (s : ByteArray) : Option (Bool) :=
 (iter (ρ := (Unit) ⊕ (Unit)) (fun s_1 : Int =>
 cond (ltI s_1 (s.size : Int))
 ((chr? s s_1).bind fun e_9 =>
 cond (ltI e_9 97)
 (some (.inr (.inl ())))
 ((chr? s s_1).bind fun _ =>
 cond (ltI 122 e_9)
 (some (.inr (.inl ())))
 (some (.inl (addI s_1 1)))))
 (some (.inr (.inr ())))) 0).bind fun r_15 =>
 Sum.elim (fun _r_15 =>
 some false)
 (fun _r_15 =>
 (spec_l1In (s.size : Int) 1 2).bind fun y_23 =>
 some y_23) r_15

def spec_IndexOf (list : (List ByteArray)) (s : ByteArray) : Option (Int) :=
 (iter (ρ := (Int) ⊕ (Unit)) (fun s_1 : Int =>
 cond (ltI s_1 (list.length : Int))
 ((at? list s_1).bind fun e_9 =>
 cond (eqS e_9 s)
 (some (.inr (.inl s_1)))
 (some (.inl (addI s_1 1))))
 (some (.inr (.inr ())))) 0).bind fun r_15 =>
 Sum.elim (fun r_15 =>
 some r_15)
 (fun _r_15 =>
 some (-1)) r_15

def spec_AreVars (list : (List ByteArray)) : Option (Bool) :=
 (iter (ρ := (Unit) ⊕ (Unit)) (fun s_1 : Int =>
 cond (ltI s_1 (list.length : Int))
 ((at? list s_1).bind fun e_9 =>
 (spec_IsName e_9).bind fun y_14 =>
 cond y_14
 ((at? list s_1).bind fun _ =>
 (spec_IndexOf list e_9).bind fun y_23 =>
 cond (neI y_23 s_1)
 (some (.inr (.inl ())))
 (some (.inl (addI s_1 1))))
 (some (.inr (.inl ()))))
 (some (.inr (.inr ())))) 0).bind fun r_27 =>
 Sum.elim (fun _r_27 =>
 some false)
 (fun _r_27 =>
 (spec_l1In (list.length : Int) 1 4).bind fun y_35 =>
 some y_35) r_27

def spec_IsStmt (vars : (List ByteArray)) (s : TStmt) : Option (Bool) :=
 (spec_NamesOf s.kind).bind fun y_1 =>
 (spec_AreVars vars).bind fun y_4 =>
 cond y_4
 (cond (ltI y_1 0)
 (some false)
 (cond (ltI y_1 1)
 (cond (neS s.a (⟨#[]⟩ : ByteArray))
 (some false)
 (cond (ltI y_1 2)
 (cond (neS s.b (⟨#[]⟩ : ByteArray))
 (some false)
 (some true))
 ((spec_IndexOf vars s.b).bind fun y_13 =>
 some (leI 0 y_13))))
 (cond (ltI y_1 2)
 (cond (neS s.b (⟨#[]⟩ : ByteArray))
 (some false)
 ((spec_IndexOf vars s.a).bind fun y_18 =>
 cond (leI 0 y_18)
 (some true)
 (some false)))
 ((spec_IndexOf vars s.a).bind fun y_22 =>
 cond (leI 0 y_22)
 ((spec_IndexOf vars s.b).bind fun y_26 =>
 some (leI 0 y_26))
 (some false)))))
 (some false)

def spec_IsProgram (p_ : TProgram) : Option (Bool) :=
 (iter (ρ := (Unit) ⊕ (Unit)) (fun s_1 : Int =>
 cond (ltI s_1 (p_.edges.length : Int))
 ((at? p_.edges s_1).bind fun e_9 =>
 (spec_l1In e_9.from_ 0 (subI p_.points 1)).bind fun y_15 =>
 cond y_15
 ((spec_l1In e_9.to_ 0 (subI p_.points 1)).bind fun y_19 =>
 cond y_19
 ((spec_IsStmt p_.vars e_9.stmt).bind fun y_23 =>
 cond y_23
 (some (.inl (addI s_1 1)))
 (some (.inr (.inl ()))))
 (some (.inr (.inl ()))))
 (some (.inr (.inl ()))))
 (some (.inr (.inr ())))) 0).bind fun r_27 =>
 Sum.elim (fun _r_27 =>
 some false)
 (fun _r_27 =>
 (spec_AreVars p_.vars).bind fun y_35 =>
 cond y_35
 ((spec_l1In p_.points 1 12).bind fun y_39 =>
 cond y_39
 (some (leI (p_.edges.length : Int) 24))
 (some false))
 (some false)) r_27

def spec_l7Cells (h_ : THeap) : Option (Bool) :=
 (iter (ρ := (Unit) ⊕ (Unit)) (fun s_1 : Int =>
 cond (ltI s_1 (h_.vars.length : Int))
 ((at? h_.vars s_1).bind fun e_9 =>
 (spec_l1In e_9 (-1) (subI (h_.next.length : Int) 1)).bind fun y_14 =>
 cond y_14
 (some (.inl (addI s_1 1)))
 (some (.inr (.inl ()))))
 (some (.inr (.inr ())))) 0).bind fun r_18 =>
 Sum.elim (fun _r_18 =>
 some false)
 (fun _r_18 =>
 (iter (ρ := (Bool) ⊕ (Unit)) (fun s_26 : Int =>
 cond (ltI s_26 (h_.next.length : Int))
 ((at? h_.next s_26).bind fun e_34 =>
 (spec_l1In e_34 (-1) (subI (h_.next.length : Int) 1)).bind fun y_39 =>
 cond y_39
 (some (.inl (addI s_26 1)))
 (some (.inr (.inl false))))
 (some (.inr (.inr ())))) 0).bind fun r_43 =>
 Sum.elim (fun r_43 =>
 some r_43)
 (fun _r_43 =>
 some true) r_43) r_18

def spec_Positions (list : (List Int)) (n_ : Int) : Option ((List Int)) :=
 (iter (ρ := (List Int)) (fun s_1 : (List Int) × Int =>
 cond (ltI s_1.2 (list.length : Int))
 ((at? list s_1.2).bind fun e_9 =>
 cond (eqI e_9 n_)
 ((room (s_1.1.length + [s_1.2].length) 8).bind fun _ =>
 some (.inl (s_1.1 ++ [s_1.2], addI s_1.2 1)))
 (some (.inl (s_1.1, addI s_1.2 1))))
 (some (.inr s_1.1))) ([], 0)).bind fun r_17 =>
 some r_17

def spec_l7Has (list : (List Int)) (n_ : Int) : Option (Bool) :=
 (spec_Positions list n_).bind fun y_1 =>
 some (ltI 0 (y_1.length : Int))

def spec_Followed (h_ : THeap) (cell : Int) : Option ((List Int)) :=
 (iter (ρ := ((List Int)) ⊕ (Unit)) (fun s_1 : Int × (List Int) =>
 cond (neI s_1.1 (-1))
 ((spec_l7Has s_1.2 s_1.1).bind fun y_9 =>
 cond y_9
 (some (.inr (.inl s_1.2)))
 ((spec_l1In s_1.1 0 (subI (h_.next.length : Int) 1)).bind fun y_13 =>
 cond y_13
 ((room (s_1.2.length + [s_1.1].length) 8).bind fun _ =>
 (at? h_.next s_1.1).bind fun e_19 =>
 some (.inl (e_19, s_1.2 ++ [s_1.1])))
 (some (.inr (.inr ())))))
 (some (.inr (.inl s_1.2)))) (cell, [])).bind fun r_24 =>
 Sum.elim (fun r_24 =>
 some r_24)
 (fun _r_24 =>
 some []) r_24

def spec_l7Acyclic (h_ : THeap) : Option (Bool) :=
 (iter (ρ := (Unit) ⊕ (Unit)) (fun s_1 : Int =>
 cond (ltI s_1 (h_.next.length : Int))
 ((spec_Followed h_ s_1).bind fun y_9 =>
 cond (eqI (y_9.length : Int) 0)
 (some (.inr (.inl ())))
 ((at? y_9 (subI (y_9.length : Int) 1)).bind fun e_13 =>
 (at? h_.next e_13).bind fun e_18 =>
 cond (neI e_18 (-1))
 (some (.inr (.inl ())))
 (some (.inl (addI s_1 1)))))
 (some (.inr (.inr ())))) 0).bind fun r_24 =>
 Sum.elim (fun _r_24 =>
 some false)
 (fun _r_24 =>
 some true) r_24

def spec_l7Order (h_ : THeap) : Option ((List Int)) :=
 (iter (ρ := (List Int)) (fun s_1 : (List Int) × Int =>
 cond (ltI s_1.2 (h_.vars.length : Int))
 ((at? h_.vars s_1.2).bind fun e_9 =>
 (spec_Followed h_ e_9).bind fun y_14 =>
 (iter (ρ := (List Int)) (fun s_17 : Int × (List Int) =>
 cond (ltI s_17.1 (y_14.length : Int))
 ((at? y_14 s_17.1).bind fun e_25 =>
 (spec_l7Has s_17.2 e_25).bind fun y_30 =>
 cond y_30
 (some (.inl (addI s_17.1 1, s_17.2)))
 ((at? y_14 s_17.1).bind fun _ =>
 (room (s_17.2.length + [e_25].length) 8).bind fun _ =>
 some (.inl (addI s_17.1 1, s_17.2 ++ [e_25]))))
 (some (.inr s_17.2))) (0, s_1.1)).bind fun r_41 =>
 some (.inl (r_41, addI s_1.2 1)))
 (some (.inr s_1.1))) ([], 0)).bind fun r_46 =>
 some r_46

def spec_IsHeap (vars : Int) (h_ : THeap) : Option (Bool) :=
 (spec_l1In vars 1 4).bind fun y_1 =>
 cond y_1
 (cond (neI (h_.vars.length : Int) vars)
 (some false)
 (cond (ltI 6 (h_.next.length : Int))
 (some false)
 ((spec_l7Cells h_).bind fun y_7 =>
 cond y_7
 ((spec_l7Acyclic h_).bind fun y_11 =>
 cond y_11
 ((spec_l7Order h_).bind fun y_15 =>
 (iter (ρ := (Unit) ⊕ (Unit)) (fun s_18 : Int =>
 cond (ltI s_18 (y_15.length : Int))
 ((at? y_15 s_18).bind fun e_26 =>
 cond (neI e_26 s_18)
 (some (.inr (.inl ())))
 (some (.inl (addI s_18 1))))
 (some (.inr (.inr ())))) 0).bind fun r_32 =>
 Sum.elim (fun _r_32 =>
 some false)
 (fun _r_32 =>
 some (eqI (y_15.length : Int) (h_.next.length : Int))) r_32)
 (some false))
 (some false))))
 (some false)

def spec_l7Same (a_ : (List Int)) (b_ : (List Int)) : Option (Bool) :=
 cond (neI (a_.length : Int) (b_.length : Int))
 (some false)
 ((iter (ρ := (Unit) ⊕ (Unit)) (fun s_2 : Int =>
 cond (ltI s_2 (a_.length : Int))
 ((at? a_ s_2).bind fun e_10 =>
 (at? b_ s_2).bind fun e_15 =>
 cond (neI e_10 e_15)
 (some (.inr (.inl ())))
 (some (.inl (addI s_2 1))))
 (some (.inr (.inr ())))) 0).bind fun r_21 =>
 Sum.elim (fun _r_21 =>
 some false)
 (fun _r_21 =>
 some true) r_21)

def spec_EqualHeap (a_ : THeap) (b_ : THeap) : Option (Bool) :=
 (spec_l7Same a_.vars b_.vars).bind fun y_1 =>
 cond y_1
 ((spec_l7Same a_.next b_.next).bind fun y_5 =>
 some y_5)
 (some false)

def spec_EqualState (a_ : TState) (b_ : TState) : Option (Bool) :=
 cond (eqI a_.point b_.point)
 ((spec_EqualHeap a_.heap b_.heap).bind fun y_2 =>
 some y_2)
 (some false)

def spec_l7Copy (h_ : THeap) : Option (THeap) :=
 (room (([] : List Int).length + h_.vars.length) 8).bind fun _ =>
 (room (([] : List Int).length + h_.next.length) 8).bind fun _ =>
 some h_

def spec_l9Put (list : (List TState)) (s : TState) : Option ((List TState)) :=
 (iter (ρ := ((List TState)) ⊕ (Unit)) (fun s_1 : Int =>
 cond (ltI s_1 (list.length : Int))
 ((at? list s_1).bind fun e_9 =>
 (spec_EqualState e_9 s).bind fun y_14 =>
 cond y_14
 (some (.inr (.inl list)))
 (some (.inl (addI s_1 1))))
 (some (.inr (.inr ())))) 0).bind fun r_18 =>
 Sum.elim (fun r_18 =>
 some r_18)
 (fun _r_18 =>
 (spec_l7Copy s.heap).bind fun y_26 =>
 (room (list.length + [(⟨s.point, y_26⟩ : TState)].length) 56).bind fun _ =>
 some (list ++ [(⟨s.point, y_26⟩ : TState)])) r_18

def spec_EdgesFrom (p_ : TProgram) (point : Int) : Option ((List Int)) :=
 (iter (ρ := (List Int)) (fun s_1 : (List Int) × Int =>
 cond (ltI s_1.2 (p_.edges.length : Int))
 ((at? p_.edges s_1.2).bind fun e_9 =>
 cond (eqI e_9.from_ point)
 ((room (s_1.1.length + [s_1.2].length) 8).bind fun _ =>
 some (.inl (s_1.1 ++ [s_1.2], addI s_1.2 1)))
 (some (.inl (s_1.1, addI s_1.2 1))))
 (some (.inr s_1.1))) ([], 0)).bind fun r_17 =>
 some r_17

def spec_l1Max (a_ : Int) (b_ : Int) : Option (Int) :=
 cond (ltI b_ a_)
 (some a_)
 (some b_)

def spec_IsTest (s : TStmt) : Option (Bool) :=
 (spec_l1In s.kind 9 12).bind fun y_1 =>
 some y_1

def spec_l8Test (kind : Int) (a_ : Int) (b_ : Int) : Option (Bool) :=
 cond (eqI kind 9)
 (some (eqI a_ (-1)))
 (cond (eqI kind 10)
 (some (neI a_ (-1)))
 (cond (eqI kind 11)
 (some (eqI a_ b_))
 (some (neI a_ b_))))

def spec_l8Null (s : TStmt) (h_ : THeap) (a_ : Int) (b_ : Int) : Option (Bool) :=
 cond (eqI s.kind 5)
 ((at? h_.vars b_).bind fun e_2 =>
 some (eqI e_2 (-1)))
 (cond (eqI s.kind 6)
 ((at? h_.vars a_).bind fun e_8 =>
 some (eqI e_8 (-1)))
 (cond (eqI s.kind 7)
 ((at? h_.vars a_).bind fun e_14 =>
 some (eqI e_14 (-1)))
 (cond (eqI s.kind 8)
 ((at? h_.vars a_).bind fun e_20 =>
 some (eqI e_20 (-1)))
 (some false))))

def spec_l1Bit (on : Bool) : Option (Int) :=
 cond on
 (some 1)
 (some 0)

def spec_l8Without (h_ : THeap) (cell : Int) : Option (THeap) :=
 (iter (ρ := (List Int)) (fun s_1 : Int × (List Int) =>
 cond (ltI s_1.1 (h_.vars.length : Int))
 ((at? h_.vars s_1.1).bind fun e_9 =>
 (at? h_.vars s_1.1).bind fun _ =>
 (spec_l1Bit (ltI cell e_9)).bind fun y_19 =>
 (room (s_1.2.length + [subI e_9 y_19].length) 8).bind fun _ =>
 some (.inl (addI s_1.1 1, s_1.2 ++ [subI e_9 y_19])))
 (some (.inr s_1.2))) (0, [])).bind fun r_24 =>
 (iter (ρ := (List Int)) (fun s_29 : Int × (List Int) =>
 cond (ltI s_29.1 (h_.next.length : Int))
 (cond (neI s_29.1 cell)
 ((at? h_.next s_29.1).bind fun e_38 =>
 (at? h_.next s_29.1).bind fun _ =>
 (spec_l1Bit (ltI cell e_38)).bind fun y_48 =>
 (room (s_29.2.length + [subI e_38 y_48].length) 8).bind fun _ =>
 some (.inl (addI s_29.1 1, s_29.2 ++ [subI e_38 y_48])))
 (some (.inl (addI s_29.1 1, s_29.2))))
 (some (.inr s_29.2))) (0, [])).bind fun r_53 =>
 some (⟨r_24, r_53⟩ : THeap)

def spec_l8Free (h_ : THeap) (a_ : Int) : Option (THeap × Int) :=
 (at? h_.vars a_).bind fun e_1 =>
 (spec_Positions h_.vars e_1).bind fun y_6 =>
 cond (ltI 1 (y_6.length : Int))
 (some ((⟨[], []⟩ : THeap), 5))
 ((spec_l7Has h_.next e_1).bind fun y_10 =>
 cond y_10
 (some ((⟨[], []⟩ : THeap), 5))
 ((at? h_.vars a_).bind fun _ =>
 (spec_l8Without (⟨h_.vars.set a_.toNat (-1), h_.next⟩ : THeap) e_1).bind fun y_20 =>
 some (y_20, 0)))

def spec_l8Do (s : TStmt) (h_ : THeap) (a_ : Int) (b_ : Int) : Option (THeap × Int) :=
 cond (eqI s.kind 2)
 ((at? h_.vars a_).bind fun e_2 =>
 some ((⟨h_.vars.set a_.toNat (-1), h_.next⟩ : THeap), 0))
 (cond (eqI s.kind 3)
 ((at? h_.vars a_).bind fun e_9 =>
 (room (h_.next.length + [(-1)].length) 8).bind fun _ =>
 some ((⟨h_.vars.set a_.toNat (h_.next.length : Int), h_.next ++ [(-1)]⟩ : THeap), 0))
 (cond (eqI s.kind 4)
 ((at? h_.vars b_).bind fun e_18 =>
 (at? h_.vars a_).bind fun e_23 =>
 some ((⟨h_.vars.set a_.toNat e_18, h_.next⟩ : THeap), 0))
 (cond (eqI s.kind 5)
 ((at? h_.vars b_).bind fun e_30 =>
 (at? h_.next e_30).bind fun e_35 =>
 (at? h_.vars a_).bind fun e_40 =>
 some ((⟨h_.vars.set a_.toNat e_35, h_.next⟩ : THeap), 0))
 (cond (eqI s.kind 6)
 ((at? h_.vars a_).bind fun e_47 =>
 (at? h_.next e_47).bind fun e_52 =>
 some ((⟨h_.vars, h_.next.set e_47.toNat (-1)⟩ : THeap), 0))
 (cond (eqI s.kind 7)
 ((at? h_.vars b_).bind fun e_59 =>
 (spec_Followed h_ e_59).bind fun y_64 =>
 (at? h_.vars a_).bind fun e_67 =>
 (spec_l7Has y_64 e_67).bind fun y_72 =>
 cond y_72
 (some ((⟨[], []⟩ : THeap), 3))
 ((at? h_.vars a_).bind fun _ =>
 (at? h_.vars b_).bind fun _ =>
 (at? h_.next e_67).bind fun e_86 =>
 some ((⟨h_.vars, h_.next.set e_67.toNat e_59⟩ : THeap), 0)))
 (cond (eqI s.kind 8)
 ((spec_l8Free h_ a_).bind fun y_95 =>
 some (y_95.1, y_95.2))
 (some (h_, 0))))))))

def spec_HasLeak (h_ : THeap) : Option (Bool) :=
 (spec_l7Order h_).bind fun y_1 =>
 some (ltI (y_1.length : Int) (h_.next.length : Int))

def spec_l7New (order : (List Int)) (cell : Int) : Option (Int) :=
 (spec_Positions order cell).bind fun y_1 =>
 cond (eqI (y_1.length : Int) 0)
 (some (-1))
 ((at? y_1 0).bind fun e_5 =>
 some e_5)

def spec_CanonHeap (h_ : THeap) : Option (THeap) :=
 (spec_l7Cells h_).bind fun y_1 =>
 cond y_1
 ((spec_l7Order h_).bind fun y_5 =>
 (iter (ρ := (List Int)) (fun s_8 : Int × (List Int) =>
 cond (ltI s_8.1 (h_.vars.length : Int))
 ((at? h_.vars s_8.1).bind fun e_16 =>
 (spec_l7New y_5 e_16).bind fun y_21 =>
 (room (s_8.2.length + [y_21].length) 8).bind fun _ =>
 some (.inl (addI s_8.1 1, s_8.2 ++ [y_21])))
 (some (.inr s_8.2))) (0, [])).bind fun r_26 =>
 (iter (ρ := (List Int)) (fun s_31 : Int × (List Int) =>
 cond (ltI s_31.1 (y_5.length : Int))
 ((at? y_5 s_31.1).bind fun e_39 =>
 (at? h_.next e_39).bind fun e_44 =>
 (spec_l7New y_5 e_44).bind fun y_49 =>
 (room (s_31.2.length + [y_49].length) 8).bind fun _ =>
 some (.inl (addI s_31.1 1, s_31.2 ++ [y_49])))
 (some (.inr s_31.2))) (0, [])).bind fun r_54 =>
 some (⟨r_26, r_54⟩ : THeap))
 (some (⟨[], []⟩ : THeap))

def spec_Exec (vars : (List ByteArray)) (s : TStmt) (h_ : THeap) : Option (THeap × Int) :=
 (show Option (Bool) from
 (spec_IsStmt vars s).bind fun y_6 =>
 cond y_6
 ((spec_IsHeap (vars.length : Int) h_).bind fun y_10 =>
 some (notB y_10))
 (some true)).bind fun r_1 =>
 cond r_1
 (some ((⟨[], []⟩ : THeap), 7))
 ((spec_IndexOf vars s.a).bind fun y_14 =>
 (spec_l1Max 0 y_14).bind fun y_17 =>
 (spec_IndexOf vars s.b).bind fun y_20 =>
 (spec_l1Max 0 y_20).bind fun y_23 =>
 (show Option (Bool) from
 (spec_IsTest s).bind fun y_31 =>
 cond y_31
 ((at? h_.vars y_17).bind fun e_35 =>
 (at? h_.vars y_23).bind fun e_40 =>
 (spec_l8Test s.kind e_35 e_40).bind fun y_45 =>
 some (notB y_45))
 (some false)).bind fun r_26 =>
 cond r_26
 (some ((⟨[], []⟩ : THeap), 1))
 ((spec_l8Null s h_ y_17 y_23).bind fun y_49 =>
 cond y_49
 (some ((⟨[], []⟩ : THeap), 2))
 ((show Option (Bool) from
 cond (eqI s.kind 3)
 (some (eqI (h_.next.length : Int) 6))
 (some false)).bind fun r_53 =>
 cond r_53
 (some ((⟨[], []⟩ : THeap), 6))
 ((spec_l7Copy h_).bind fun y_60 =>
 (spec_l8Do s y_60 y_17 y_23).bind fun y_65 =>
 cond (neI y_65.2 0)
 (some ((⟨[], []⟩ : THeap), y_65.2))
 ((spec_HasLeak y_65.1).bind fun y_70 =>
 cond y_70
 (some ((⟨[], []⟩ : THeap), 4))
 ((spec_CanonHeap y_65.1).bind fun y_74 =>
 some (y_74, 0)))))))

def spec_StatesFrom (p_ : TProgram) (start : (List THeap)) : Option ((List TState) × Bool) :=
 (spec_IsProgram p_).bind fun y_1 =>
 cond y_1
 ((iter (ρ := (Unit) ⊕ ((List TState))) (fun s_5 : (List TState) × Int =>
 cond (ltI s_5.2 (start.length : Int))
 ((at? start s_5.2).bind fun e_13 =>
 (spec_IsHeap (p_.vars.length : Int) e_13).bind fun y_18 =>
 cond y_18
 ((at? start s_5.2).bind fun _ =>
 (spec_l9Put s_5.1 (⟨0, e_13⟩ : TState)).bind fun y_29 =>
 some (.inl (y_29, addI s_5.2 1)))
 (some (.inr (.inl ()))))
 (some (.inr (.inr s_5.1)))) ([], 0)).bind fun r_32 =>
 Sum.elim (fun _r_32 =>
 some ([], false))
 (fun r_32 =>
 (iter (ρ := (List TState)) (fun s_40 : (List TState) × Int =>
 cond (ltI s_40.2 (s_40.1.length : Int))
 (cond (leI (s_40.1.length : Int) 200)
 ((at? s_40.1 s_40.2).bind fun e_49 =>
 (spec_EdgesFrom p_ e_49.point).bind fun y_54 =>
 (iter (ρ := (List TState)) (fun s_57 : (List TState) × Int =>
 cond (ltI s_57.2 (y_54.length : Int))
 ((at? y_54 s_57.2).bind fun e_65 =>
 (at? p_.edges e_65).bind fun e_70 =>
 (at? s_57.1 s_40.2).bind fun e_76 =>
 (spec_Exec p_.vars e_70.stmt e_76.heap).bind fun y_81 =>
 cond (eqI y_81.2 0)
 ((spec_l9Put s_57.1 (⟨e_70.to_, y_81.1⟩ : TState)).bind fun y_88 =>
 some (.inl (y_88, addI s_57.2 1)))
 (some (.inl (s_57.1, addI s_57.2 1))))
 (some (.inr s_57.1))) (s_40.1, 0)).bind fun r_91 =>
 some (.inl (r_91, addI s_40.2 1)))
 (some (.inr s_40.1)))
 (some (.inr s_40.1))) (r_32, 0)).bind fun r_96 =>
 cond (ltI 200 (r_96.length : Int))
 (some ([], false))
 (some (r_96, true))) r_32)
 (some ([], false))

def impl_within (n_ : Int) (low : Int) (high : Int) : Option (Bool) :=
 cond (leI low n_)
 (some (leI n_ high))
 (some false)

def impl_IsName (s : ByteArray) : Option (Bool) :=
 (iter (ρ := (Unit) ⊕ (Unit)) (fun s_1 : Int =>
 cond (ltI s_1 (s.size : Int))
 ((chr? s s_1).bind fun e_9 =>
 cond (ltI e_9 97)
 (some (.inr (.inl ())))
 ((chr? s s_1).bind fun _ =>
 cond (ltI 122 e_9)
 (some (.inr (.inl ())))
 (some (.inl (addI s_1 1)))))
 (some (.inr (.inr ())))) 0).bind fun r_15 =>
 Sum.elim (fun _r_15 =>
 some false)
 (fun _r_15 =>
 (impl_within (s.size : Int) 1 2).bind fun y_23 =>
 some y_23) r_15

def slices_Index_string (s : (List ByteArray)) (v : ByteArray) : Option (Int) :=
 (iter (ρ := (Int) ⊕ (Unit)) (fun s_1 : Int =>
 cond (ltI s_1 (s.length : Int))
 ((at? s s_1).bind fun e_9 =>
 cond (eqS v e_9)
 (some (.inr (.inl s_1)))
 (some (.inl (addI s_1 1))))
 (some (.inr (.inr ())))) 0).bind fun r_15 =>
 Sum.elim (fun r_15 =>
 some r_15)
 (fun _r_15 =>
 some (-1)) r_15

def impl_IndexOf (list : (List ByteArray)) (s : ByteArray) : Option (Int) :=
 (slices_Index_string list s).bind fun y_1 =>
 some y_1

def impl_AreVars (list : (List ByteArray)) : Option (Bool) :=
 (iter (ρ := (Unit) ⊕ (Unit)) (fun s_1 : Int =>
 cond (ltI s_1 (list.length : Int))
 ((at? list s_1).bind fun e_9 =>
 (impl_IsName e_9).bind fun y_14 =>
 cond y_14
 ((impl_IndexOf list e_9).bind fun y_18 =>
 cond (neI y_18 s_1)
 (some (.inr (.inl ())))
 (some (.inl (addI s_1 1))))
 (some (.inr (.inl ()))))
 (some (.inr (.inr ())))) 0).bind fun r_22 =>
 Sum.elim (fun _r_22 =>
 some false)
 (fun _r_22 =>
 (impl_within (list.length : Int) 1 4).bind fun y_30 =>
 some y_30) r_22

def slices_Contains_string (s : (List ByteArray)) (v : ByteArray) : Option (Bool) :=
 (slices_Index_string s v).bind fun y_1 =>
 some (leI 0 y_1)

def impl_NamesOf (kind : Int) : Option (Int) :=
 (impl_within kind 1 12).bind fun y_1 =>
 cond y_1
 ((at? [0, 1, 1, 2, 2, 1, 2, 1, 1, 1, 2, 2] (subI kind 1)).bind fun e_5 =>
 some e_5)
 (some (-1))

def impl_Stmt_hasNames (s : TStmt) (accept : (ByteArray → Option (Bool))) : Option (Bool) :=
 (impl_NamesOf s.kind).bind fun y_1 =>
 (iter (ρ := (Unit) ⊕ (Unit)) (fun s_4 : Int =>
 cond (ltI s_4 ([s.a, s.b].length : Int))
 ((at? [s.a, s.b] s_4).bind fun e_15 =>
 cond (ltI s_4 y_1)
 ((accept e_15).bind fun y_21 =>
 cond y_21
 (cond (leI y_1 s_4)
 (cond (neS e_15 (⟨#[]⟩ : ByteArray))
 (some (.inr (.inl ())))
 (some (.inl (addI s_4 1))))
 (some (.inl (addI s_4 1))))
 (some (.inr (.inl ()))))
 (cond (leI y_1 s_4)
 (cond (neS e_15 (⟨#[]⟩ : ByteArray))
 (some (.inr (.inl ())))
 (some (.inl (addI s_4 1))))
 (some (.inl (addI s_4 1)))))
 (some (.inr (.inr ())))) 0).bind fun r_28 =>
 Sum.elim (fun _r_28 =>
 some false)
 (fun _r_28 =>
 some (leI 0 y_1)) r_28

def impl_IsStmt_1 (name : ByteArray) (c0 : (List ByteArray)) : Option (Bool) :=
 (slices_Contains_string c0 name).bind fun y_1 =>
 some y_1

def impl_IsStmt (vars : (List ByteArray)) (s : TStmt) : Option (Bool) :=
 (impl_AreVars vars).bind fun y_1 =>
 cond y_1
 ((impl_Stmt_hasNames s (fun x0 => impl_IsStmt_1 x0 vars)).bind fun y_5 =>
 some y_5)
 (some false)

def slices_IndexFunc_Edge (s : (List TEdge)) (f_ : (TEdge → Option (Bool))) : Option (Int) :=
 (iter (ρ := (Int) ⊕ (Unit)) (fun s_1 : Int =>
 cond (ltI s_1 (s.length : Int))
 ((at? s s_1).bind fun e_10 =>
 (f_ e_10).bind fun y_15 =>
 cond y_15
 (some (.inr (.inl s_1)))
 (some (.inl (addI s_1 1))))
 (some (.inr (.inr ())))) 0).bind fun r_18 =>
 Sum.elim (fun r_18 =>
 some r_18)
 (fun _r_18 =>
 some (-1)) r_18

def slices_ContainsFunc_Edge (s : (List TEdge)) (f_ : (TEdge → Option (Bool))) : Option (Bool) :=
 (slices_IndexFunc_Edge s f_).bind fun y_1 =>
 some (leI 0 y_1)

def impl_IsProgram_1 (e : TEdge) (c0 : TProgram) : Option (Bool) :=
 (impl_within e.from_ 0 (subI c0.points 1)).bind fun y_1 =>
 cond y_1
 ((impl_within e.to_ 0 (subI c0.points 1)).bind fun y_5 =>
 cond y_5
 ((impl_IsStmt c0.vars e.stmt).bind fun y_9 =>
 some (notB y_9))
 (some true))
 (some true)

def impl_IsProgram (p_ : TProgram) : Option (Bool) :=
 (impl_AreVars p_.vars).bind fun y_1 =>
 cond y_1
 ((impl_within p_.points 1 12).bind fun y_5 =>
 cond y_5
 (cond (ltI 24 (p_.edges.length : Int))
 (some false)
 ((slices_ContainsFunc_Edge p_.edges (fun x0 => impl_IsProgram_1 x0 p_)).bind fun y_10 =>
 some (notB y_10)))
 (some false))
 (some false)

def impl_Heap_isCell (h_ : THeap) (n_ : Int) : Option (Bool) :=
 (impl_within n_ 0 (subI (h_.next.length : Int) 1)).bind fun y_1 =>
 some y_1

def slices_IndexFunc_int (s : (List Int)) (f_ : (Int → Option (Bool))) : Option (Int) :=
 (iter (ρ := (Int) ⊕ (Unit)) (fun s_1 : Int =>
 cond (ltI s_1 (s.length : Int))
 ((at? s s_1).bind fun e_10 =>
 (f_ e_10).bind fun y_15 =>
 cond y_15
 (some (.inr (.inl s_1)))
 (some (.inl (addI s_1 1))))
 (some (.inr (.inr ())))) 0).bind fun r_18 =>
 Sum.elim (fun r_18 =>
 some r_18)
 (fun _r_18 =>
 some (-1)) r_18

def slices_ContainsFunc_int (s : (List Int)) (f_ : (Int → Option (Bool))) : Option (Bool) :=
 (slices_IndexFunc_int s f_).bind fun y_1 =>
 some (leI 0 y_1)

def impl_Heap_areCells_1 (n_ : Int) (c0 : THeap) : Option (Bool) :=
 cond (neI n_ (-1))
 ((impl_Heap_isCell c0 n_).bind fun y_2 =>
 some (notB y_2))
 (some false)

def impl_Heap_areCells (h_ : THeap) : Option (Bool) :=
 (slices_Concat_int [h_.vars, h_.next]).bind fun y_1 =>
 (slices_ContainsFunc_int y_1 (fun x0 => impl_Heap_areCells_1 x0 h_)).bind fun y_4 =>
 some (notB y_4)

def slices_Index_int (s : (List Int)) (v : Int) : Option (Int) :=
 (iter (ρ := (Int) ⊕ (Unit)) (fun s_1 : Int =>
 cond (ltI s_1 (s.length : Int))
 ((at? s s_1).bind fun e_9 =>
 cond (eqI v e_9)
 (some (.inr (.inl s_1)))
 (some (.inl (addI s_1 1))))
 (some (.inr (.inr ())))) 0).bind fun r_15 =>
 Sum.elim (fun r_15 =>
 some r_15)
 (fun _r_15 =>
 some (-1)) r_15

def zak (s : (List Int)) (v : Int) : Option (Bool) :=
 (slices_Index_int s v).bind fun y_1 =>
 some (leI 0 y_1)

def impl_Followed (h_ : THeap) (cell : Int) : Option ((List Int)) :=
 (iter (ρ := ((List Int)) ⊕ (Unit)) (fun s_1 : (List Int) × Int =>
 cond (neI s_1.2 (-1))
 ((impl_Heap_isCell h_ s_1.2).bind fun y_9 =>
 cond y_9
 ((zak s_1.1 s_1.2).bind fun y_13 =>
 cond y_13
 (some (.inr (.inl s_1.1)))
 ((room (s_1.1.length + [s_1.2].length) 8).bind fun _ =>
 (at? h_.next s_1.2).bind fun e_19 =>
 some (.inl (s_1.1 ++ [s_1.2], e_19))))
 (some (.inr (.inr ()))))
 (cond (eqI cell (-1))
 ((impl_Heap_isCell h_ s_1.2).bind fun y_25 =>
 cond y_25
 ((zak s_1.1 s_1.2).bind fun y_29 =>
 cond y_29
 (some (.inr (.inl s_1.1)))
 ((room (s_1.1.length + [s_1.2].length) 8).bind fun _ =>
 (at? h_.next s_1.2).bind fun e_35 =>
 some (.inl (s_1.1 ++ [s_1.2], e_35))))
 (some (.inr (.inr ()))))
 (some (.inr (.inl s_1.1))))) ([], cell)).bind fun r_40 =>
 Sum.elim (fun r_40 =>
 some r_40)
 (fun _r_40 =>
 some []) r_40

def impl_Heap_isCyclic (h_ : THeap) : Option (Bool) :=
 (iter (ρ := (Bool) ⊕ (Unit)) (fun s_1 : Int =>
 cond (ltI s_1 (h_.next.length : Int))
 ((at? h_.next s_1).bind fun e_9 =>
 (impl_Followed h_ e_9).bind fun y_14 =>
 (zak y_14 s_1).bind fun y_17 =>
 cond y_17
 (some (.inr (.inl true)))
 (some (.inl (addI s_1 1))))
 (some (.inr (.inr ())))) 0).bind fun r_21 =>
 Sum.elim (fun r_21 =>
 some r_21)
 (fun _r_21 =>
 some false) r_21

def impl_Heap_met (h_ : THeap) : Option ((List Int)) :=
 (iter (ρ := (List Int)) (fun s_1 : (List Int) × Int =>
 cond (ltI s_1.2 (h_.vars.length : Int))
 ((at? h_.vars s_1.2).bind fun e_9 =>
 (impl_Followed h_ e_9).bind fun y_14 =>
 (iter (ρ := (List Int)) (fun s_17 : Int × (List Int) =>
 cond (ltI s_17.1 (y_14.length : Int))
 ((at? y_14 s_17.1).bind fun e_25 =>
 (zak s_17.2 e_25).bind fun y_30 =>
 cond y_30
 (some (.inl (addI s_17.1 1, s_17.2)))
 ((room (s_17.2.length + [e_25].length) 8).bind fun _ =>
 some (.inl (addI s_17.1 1, s_17.2 ++ [e_25]))))
 (some (.inr s_17.2))) (0, s_1.1)).bind fun r_36 =>
 some (.inl (r_36, addI s_1.2 1)))
 (some (.inr s_1.1))) ([], 0)).bind fun r_41 =>
 some r_41

def impl_IsHeap (vars : Int) (h_ : THeap) : Option (Bool) :=
 (impl_within vars 1 4).bind fun y_1 =>
 cond y_1
 (cond (neI (h_.vars.length : Int) vars)
 (some false)
 (cond (ltI 6 (h_.next.length : Int))
 (some false)
 ((impl_Heap_areCells h_).bind fun y_7 =>
 cond y_7
 ((impl_Heap_isCyclic h_).bind fun y_11 =>
 cond y_11
 (some false)
 ((impl_Heap_met h_).bind fun y_15 =>
 (iter (ρ := (Unit) ⊕ (Unit)) (fun s_18 : Int =>
 cond (ltI s_18 (y_15.length : Int))
 ((at? y_15 s_18).bind fun e_26 =>
 cond (neI e_26 s_18)
 (some (.inr (.inl ())))
 (some (.inl (addI s_18 1))))
 (some (.inr (.inr ())))) 0).bind fun r_32 =>
 Sum.elim (fun _r_32 =>
 some false)
 (fun _r_32 =>
 some (eqI (y_15.length : Int) (h_.next.length : Int))) r_32))
 (some false))))
 (some false)

def slices_Equal_int (s1 : (List Int)) (s2 : (List Int)) : Option (Bool) :=
 cond (neI (s1.length : Int) (s2.length : Int))
 (some false)
 ((iter (ρ := (Unit) ⊕ (Unit)) (fun s_2 : Int =>
 cond (ltI s_2 (s1.length : Int))
 ((at? s1 s_2).bind fun e_10 =>
 (at? s2 s_2).bind fun e_15 =>
 cond (neI e_10 e_15)
 (some (.inr (.inl ())))
 (some (.inl (addI s_2 1))))
 (some (.inr (.inr ())))) 0).bind fun r_21 =>
 Sum.elim (fun _r_21 =>
 some false)
 (fun _r_21 =>
 some true) r_21)

def impl_EqualHeap (a_ : THeap) (b_ : THeap) : Option (Bool) :=
 (slices_Equal_int a_.vars b_.vars).bind fun y_1 =>
 cond y_1
 ((slices_Equal_int a_.next b_.next).bind fun y_5 =>
 some y_5)
 (some false)

def impl_EqualState (a_ : TState) (b_ : TState) : Option (Bool) :=
 cond (eqI a_.point b_.point)
 ((impl_EqualHeap a_.heap b_.heap).bind fun y_2 =>
 some y_2)
 (some false)

def impl_Heap_own (h_ : THeap) : Option (THeap) :=
 (slices_Clone_int h_.vars).bind fun y_1 =>
 (slices_Clone_int h_.next).bind fun y_4 =>
 some (⟨y_1, y_4⟩ : THeap)

def impl_EdgesFrom (p_ : TProgram) (point : Int) : Option ((List Int)) :=
 (iter (ρ := (List Int)) (fun s_1 : (List Int) × Int =>
 cond (ltI s_1.2 (p_.edges.length : Int))
 ((at? p_.edges s_1.2).bind fun e_9 =>
 cond (eqI e_9.from_ point)
 ((room (s_1.1.length + [s_1.2].length) 8).bind fun _ =>
 some (.inl (s_1.1 ++ [s_1.2], addI s_1.2 1)))
 (some (.inl (s_1.1, addI s_1.2 1))))
 (some (.inr s_1.1))) ([], 0)).bind fun r_18 =>
 some r_18

def impl_Heap_at (h_ : THeap) (vars : (List ByteArray)) (name : ByteArray) : Option (Int) :=
 (impl_IndexOf vars name).bind fun y_1 =>
 cond (leI 0 y_1)
 ((at? h_.vars y_1).bind fun e_5 =>
 some e_5)
 (some (-1))

def impl_needs (kind : Int) (a_ : Int) (b_ : Int) : Option (Int × Bool) :=
 cond (eqI kind 5)
 (some (b_, true))
 (cond (eqI kind 6)
 (some (a_, true))
 (cond (eqI kind 7)
 (some (a_, true))
 (cond (eqI kind 8)
 (some (a_, true))
 (some (0, false)))))

def impl_IsTest (s : TStmt) : Option (Bool) :=
 (impl_within s.kind 9 12).bind fun y_1 =>
 some y_1

def impl_holds (kind : Int) (a_ : Int) (b_ : Int) : Option (Bool) :=
 cond (eqI kind 9)
 (some (eqI a_ (-1)))
 (cond (eqI kind 10)
 (some (neI a_ (-1)))
 (cond (eqI kind 11)
 (some (eqI a_ b_))
 (some (neI a_ b_))))

def impl_Positions (list : (List Int)) (n_ : Int) : Option ((List Int)) :=
 (iter (ρ := (List Int)) (fun s_1 : (List Int) × Int =>
 cond (ltI s_1.2 (list.length : Int))
 ((at? list s_1.2).bind fun e_9 =>
 cond (eqI e_9 n_)
 ((room (s_1.1.length + [s_1.2].length) 8).bind fun _ =>
 some (.inl (s_1.1 ++ [s_1.2], addI s_1.2 1)))
 (some (.inl (s_1.1, addI s_1.2 1))))
 (some (.inr s_1.1))) ([], 0)).bind fun r_17 =>
 some r_17

def zam (h_ : THeap) (s : TStmt) (own : Int) (a_ : Int) (b_ : Int) : Option (THeap) :=
 (slices_Clone_int h_.vars).bind fun y_1 =>
 (slices_Clone_int h_.next).bind fun y_4 =>
 cond (eqI s.kind 2)
 ((at? y_1 own).bind fun e_8 =>
 some (⟨y_1.set own.toNat (-1), y_4⟩ : THeap))
 (cond (eqI s.kind 3)
 ((at? y_1 own).bind fun e_15 =>
 (room (y_4.length + [(-1)].length) 8).bind fun _ =>
 some (⟨y_1.set own.toNat (y_4.length : Int), y_4 ++ [(-1)]⟩ : THeap))
 (cond (eqI s.kind 4)
 ((at? y_1 own).bind fun e_24 =>
 some (⟨y_1.set own.toNat b_, y_4⟩ : THeap))
 (cond (eqI s.kind 5)
 ((at? h_.next b_).bind fun e_31 =>
 (at? y_1 own).bind fun e_36 =>
 some (⟨y_1.set own.toNat e_31, y_4⟩ : THeap))
 (cond (eqI s.kind 6)
 ((at? y_4 a_).bind fun e_43 =>
 some (⟨y_1, y_4.set a_.toNat (-1)⟩ : THeap))
 (cond (eqI s.kind 7)
 ((at? y_4 a_).bind fun e_50 =>
 some (⟨y_1, y_4.set a_.toNat b_⟩ : THeap))
 (cond (eqI s.kind 8)
 ((at? y_1 own).bind fun e_57 =>
 (impl_Heap_without (⟨y_1.set own.toNat (-1), y_4⟩ : THeap) a_).bind fun y_65 =>
 some y_65)
 (some (⟨y_1, y_4⟩ : THeap))))))))

def impl_HasLeak (h_ : THeap) : Option (Bool) :=
 (impl_Heap_met h_).bind fun y_1 =>
 some (ltI (y_1.length : Int) (h_.next.length : Int))

def impl_CanonHeap_1 (c : Int) (c0 : (List Int)) : Option (Int) :=
 (slices_Index_int c0 c).bind fun y_1 =>
 some y_1

def impl_CanonHeap (h_ : THeap) : Option (THeap) :=
 (impl_Heap_areCells h_).bind fun y_1 =>
 cond y_1
 ((impl_Heap_met h_).bind fun y_5 =>
 (iter (ρ := (List Int)) (fun s_8 : Int × (List Int) =>
 cond (ltI s_8.1 (h_.vars.length : Int))
 ((at? h_.vars s_8.1).bind fun e_17 =>
 (impl_CanonHeap_1 e_17 y_5).bind fun y_22 =>
 (room (s_8.2.length + [y_22].length) 8).bind fun _ =>
 some (.inl (addI s_8.1 1, s_8.2 ++ [y_22])))
 (some (.inr s_8.2))) (0, [])).bind fun r_26 =>
 (iter (ρ := (List Int)) (fun s_32 : Int × (List Int) =>
 cond (ltI s_32.1 (y_5.length : Int))
 ((at? y_5 s_32.1).bind fun e_41 =>
 (at? h_.next e_41).bind fun e_46 =>
 (impl_CanonHeap_1 e_46 y_5).bind fun y_51 =>
 (room (s_32.2.length + [y_51].length) 8).bind fun _ =>
 some (.inl (addI s_32.1 1, s_32.2 ++ [y_51])))
 (some (.inr s_32.2))) (0, [])).bind fun r_55 =>
 some (⟨r_26, r_55⟩ : THeap))
 (some (⟨[], []⟩ : THeap))

def impl_Exec (vars : (List ByteArray)) (s : TStmt) (h_ : THeap) : Option (THeap × Int) :=
 (show Option (Bool) from
 (impl_IsStmt vars s).bind fun y_7 =>
 cond y_7
 ((impl_IsHeap (vars.length : Int) h_).bind fun y_11 =>
 some (notB y_11))
 (some true)).bind fun r_1 =>
 cond r_1
 (some ((⟨[], []⟩ : THeap), 7))
 ((impl_IndexOf vars s.a).bind fun y_15 =>
 (impl_Heap_at h_ vars s.a).bind fun y_18 =>
 (impl_Heap_at h_ vars s.b).bind fun y_21 =>
 (impl_needs s.kind y_18 y_21).bind fun y_24 =>
 (show Option (Bool) from
 (impl_IsTest s).bind fun y_33 =>
 cond y_33
 ((impl_holds s.kind y_18 y_21).bind fun y_37 =>
 some (notB y_37))
 (some false)).bind fun r_27 =>
 cond r_27
 (some ((⟨[], []⟩ : THeap), 1))
 ((show Option (Bool) from
 cond y_24.2
 (some (eqI y_24.1 (-1)))
 (some false)).bind fun r_41 =>
 cond r_41
 (some ((⟨[], []⟩ : THeap), 2))
 ((show Option (Bool) from
 cond (eqI s.kind 3)
 (some (eqI (h_.next.length : Int) 6))
 (some false)).bind fun r_49 =>
 cond r_49
 (some ((⟨[], []⟩ : THeap), 6))
 ((show Option (Bool) from
 cond (eqI s.kind 8)
 ((impl_Positions h_.vars y_18).bind fun y_64 =>
 cond (ltI 1 (y_64.length : Int))
 (some true)
 ((zak h_.next y_18).bind fun y_68 =>
 some y_68))
 (some false)).bind fun r_57 =>
 cond r_57
 (some ((⟨[], []⟩ : THeap), 5))
 ((show Option (Bool) from
 cond (eqI s.kind 7)
 ((impl_Followed h_ y_21).bind fun y_79 =>
 (zak y_79 y_18).bind fun y_82 =>
 some y_82)
 (some false)).bind fun r_72 =>
 cond r_72
 (some ((⟨[], []⟩ : THeap), 3))
 ((zam h_ s y_15 y_18 y_21).bind fun y_86 =>
 (impl_HasLeak y_86).bind fun y_90 =>
 cond y_90
 (some ((⟨[], []⟩ : THeap), 4))
 ((impl_CanonHeap y_86).bind fun y_94 =>
 some (y_94, 0))))))))

def slices_IndexFunc_Heap (s : (List THeap)) (f_ : (THeap → Option (Bool))) : Option (Int) :=
 (iter (ρ := (Int) ⊕ (Unit)) (fun s_1 : Int =>
 cond (ltI s_1 (s.length : Int))
 ((at? s s_1).bind fun e_10 =>
 (f_ e_10).bind fun y_15 =>
 cond y_15
 (some (.inr (.inl s_1)))
 (some (.inl (addI s_1 1))))
 (some (.inr (.inr ())))) 0).bind fun r_18 =>
 Sum.elim (fun r_18 =>
 some r_18)
 (fun _r_18 =>
 some (-1)) r_18

def slices_ContainsFunc_Heap (s : (List THeap)) (f_ : (THeap → Option (Bool))) : Option (Bool) :=
 (slices_IndexFunc_Heap s f_).bind fun y_1 =>
 some (leI 0 y_1)

def impl_explore_1 (h_ : THeap) (c0 : TProgram) : Option (Bool) :=
 (impl_IsHeap (c0.vars.length : Int) h_).bind fun y_1 =>
 some (notB y_1)

def slices_IndexFunc_metState (s : (List TMetState)) (f_ : (TMetState → Option (Bool))) : Option (Int) :=
 (iter (ρ := (Int) ⊕ (Unit)) (fun s_1 : Int =>
 cond (ltI s_1 (s.length : Int))
 ((at? s s_1).bind fun e_10 =>
 (f_ e_10).bind fun y_15 =>
 cond y_15
 (some (.inr (.inl s_1)))
 (some (.inl (addI s_1 1))))
 (some (.inr (.inr ())))) 0).bind fun r_18 =>
 Sum.elim (fun r_18 =>
 some r_18)
 (fun _r_18 =>
 some (-1)) r_18

def slices_ContainsFunc_metState (s : (List TMetState)) (f_ : (TMetState → Option (Bool))) : Option (Bool) :=
 (slices_IndexFunc_metState s f_).bind fun y_1 =>
 some (leI 0 y_1)

def impl_explore_2_1 (x_ : TMetState) (c0 : TState) : Option (Bool) :=
 (impl_EqualState x_.state c0).bind fun y_1 =>
 some y_1

def impl_explore_2 (s : TState) (from_ : Int) (edge : Int) (c0 : (List TMetState)) : Option ((List TMetState)) :=
 (slices_ContainsFunc_metState c0 (fun x0 => impl_explore_2_1 x0 s)).bind fun y_1 =>
 cond y_1
 (some c0)
 ((room (c0.length + [(⟨s, from_, edge⟩ : TMetState)].length) 72).bind fun _ =>
 some (c0 ++ [(⟨s, from_, edge⟩ : TMetState)]))

def impl_explore (p_ : TProgram) (start : (List THeap)) : Option ((List TMetState) × Bool) :=
 (impl_IsProgram p_).bind fun y_1 =>
 cond y_1
 ((slices_ContainsFunc_Heap start (fun x0 => impl_explore_1 x0 p_)).bind fun y_5 =>
 cond y_5
 (some ([], false))
 ((iter (ρ := (List TMetState)) (fun s_8 : Int × (List TMetState) =>
 cond (ltI s_8.1 (start.length : Int))
 ((at? start s_8.1).bind fun e_17 =>
 (impl_Heap_own e_17).bind fun y_23 =>
 (impl_explore_2 (⟨0, y_23⟩ : TState) (-1) (-1) s_8.2).bind fun y_28 =>
 some (.inl (addI s_8.1 1, y_28)))
 (some (.inr s_8.2))) (0, [])).bind fun r_30 =>
 (iter (ρ := (List TMetState)) (fun s_36 : Int × (List TMetState) =>
 cond (ltI s_36.1 (s_36.2.length : Int))
 (cond (leI (s_36.2.length : Int) 200)
 ((at? s_36.2 s_36.1).bind fun e_46 =>
 (impl_EdgesFrom p_ e_46.state.point).bind fun y_51 =>
 (iter (ρ := (List TMetState)) (fun s_54 : Int × (List TMetState) =>
 cond (ltI s_54.1 (y_51.length : Int))
 ((at? y_51 s_54.1).bind fun e_63 =>
 (at? p_.edges e_63).bind fun e_68 =>
 (at? s_54.2 s_36.1).bind fun e_73 =>
 (impl_Exec p_.vars e_68.stmt e_73.state.heap).bind fun y_78 =>
 cond (eqI y_78.2 0)
 ((at? p_.edges e_63).bind fun _ =>
 (impl_explore_2 (⟨e_68.to_, y_78.1⟩ : TState) s_36.1 e_63 s_54.2).bind fun y_90 =>
 some (.inl (addI s_54.1 1, y_90)))
 (some (.inl (addI s_54.1 1, s_54.2))))
 (some (.inr s_54.2))) (0, s_36.2)).bind fun r_92 =>
 some (.inl (addI s_36.1 1, r_92)))
 (some (.inr s_36.2)))
 (some (.inr s_36.2))) (0, r_30)).bind fun r_98 =>
 some (r_98, leI (r_98.length : Int) 200)))
 (some ([], false))

def impl_StatesFrom (p_ : TProgram) (start : (List THeap)) : Option ((List TState) × Bool) :=
 (impl_explore p_ start).bind fun y_1 =>
 cond y_1.2
 ((iter (ρ := (List TState) × Int) (fun s_5 : (List TState) × Int × Int =>
 cond (ltI s_5.2.1 (y_1.1.length : Int))
 ((at? y_1.1 s_5.2.1).bind fun e_13 =>
 (takeI s_5.2.1 s_5.2.2).bind fun _ =>
 (room (s_5.1.length + [e_13.state].length) 56).bind fun _ =>
 some (.inl (s_5.1 ++ [e_13.state], addI s_5.2.1 1, s_5.2.2 + 1)))
 (some (.inr (s_5.1, s_5.2.2)))) ([], 0, 0)).bind fun r_24 =>
 some (r_24.1, true))
 (some ([], false))

def laws_eqIntS (a_ : (List Int)) (b_ : (List Int)) : Option (Bool) :=
 cond (neI (a_.length : Int) (b_.length : Int))
 (some false)
 ((iter (ρ := (Unit) ⊕ (Unit)) (fun s_2 : Int =>
 cond (ltI s_2 (a_.length : Int))
 ((at? a_ s_2).bind fun e_10 =>
 (at? b_ s_2).bind fun e_15 =>
 cond (neI e_10 e_15)
 (some (.inr (.inl ())))
 (some (.inl (addI s_2 1))))
 (some (.inr (.inr ())))) 0).bind fun r_21 =>
 Sum.elim (fun _r_21 =>
 some false)
 (fun _r_21 =>
 some true) r_21)

def laws_eqHeap (a_ : THeap) (b_ : THeap) : Option (Bool) :=
 (laws_eqIntS a_.vars b_.vars).bind fun y_1 =>
 cond y_1
 ((laws_eqIntS a_.next b_.next).bind fun y_5 =>
 cond y_5
 (some true)
 (some false))
 (some false)

def laws_eqState (a_ : TState) (b_ : TState) : Option (Bool) :=
 cond (neI a_.point b_.point)
 (some false)
 ((laws_eqHeap a_.heap b_.heap).bind fun y_2 =>
 cond y_2
 (some true)
 (some false))

def laws_eqStateS (a_ : (List TState)) (b_ : (List TState)) : Option (Bool) :=
 cond (neI (a_.length : Int) (b_.length : Int))
 (some false)
 ((iter (ρ := (Unit) ⊕ (Unit)) (fun s_2 : Int =>
 cond (ltI s_2 (a_.length : Int))
 ((at? a_ s_2).bind fun e_10 =>
 (at? b_ s_2).bind fun e_15 =>
 (laws_eqState e_10 e_15).bind fun y_20 =>
 cond y_20
 (some (.inl (addI s_2 1)))
 (some (.inr (.inl ()))))
 (some (.inr (.inr ())))) 0).bind fun r_24 =>
 Sum.elim (fun _r_24 =>
 some false)
 (fun _r_24 =>
 some true) r_24)

def laws_eqStringS (a_ : (List ByteArray)) (b_ : (List ByteArray)) : Option (Bool) :=
 cond (neI (a_.length : Int) (b_.length : Int))
 (some false)
 ((iter (ρ := (Unit) ⊕ (Unit)) (fun s_2 : Int =>
 cond (ltI s_2 (a_.length : Int))
 ((at? a_ s_2).bind fun e_10 =>
 (at? b_ s_2).bind fun e_15 =>
 cond (neS e_10 e_15)
 (some (.inr (.inl ())))
 (some (.inl (addI s_2 1))))
 (some (.inr (.inr ())))) 0).bind fun r_21 =>
 Sum.elim (fun _r_21 =>
 some false)
 (fun _r_21 =>
 some true) r_21)

def laws_eqStmt (a_ : TStmt) (b_ : TStmt) : Option (Bool) :=
 cond (neI a_.kind b_.kind)
 (some false)
 (cond (neS a_.a b_.a)
 (some false)
 (cond (neS a_.b b_.b)
 (some false)
 (some true)))

def laws_eqEdge (a_ : TEdge) (b_ : TEdge) : Option (Bool) :=
 cond (neI a_.from_ b_.from_)
 (some false)
 (cond (neI a_.to_ b_.to_)
 (some false)
 ((laws_eqStmt a_.stmt b_.stmt).bind fun y_3 =>
 cond y_3
 (some true)
 (some false)))

def laws_eqEdgeS (a_ : (List TEdge)) (b_ : (List TEdge)) : Option (Bool) :=
 cond (neI (a_.length : Int) (b_.length : Int))
 (some false)
 ((iter (ρ := (Unit) ⊕ (Unit)) (fun s_2 : Int =>
 cond (ltI s_2 (a_.length : Int))
 ((at? a_ s_2).bind fun e_10 =>
 (at? b_ s_2).bind fun e_15 =>
 (laws_eqEdge e_10 e_15).bind fun y_20 =>
 cond y_20
 (some (.inl (addI s_2 1)))
 (some (.inr (.inl ()))))
 (some (.inr (.inr ())))) 0).bind fun r_24 =>
 Sum.elim (fun _r_24 =>
 some false)
 (fun _r_24 =>
 some true) r_24)

def laws_eqProgram (a_ : TProgram) (b_ : TProgram) : Option (Bool) :=
 (laws_eqStringS a_.vars b_.vars).bind fun y_1 =>
 cond y_1
 (cond (neI a_.points b_.points)
 (some false)
 ((laws_eqEdgeS a_.edges b_.edges).bind fun y_6 =>
 cond y_6
 (some true)
 (some false)))
 (some false)

def laws_eqHeapS (a_ : (List THeap)) (b_ : (List THeap)) : Option (Bool) :=
 cond (neI (a_.length : Int) (b_.length : Int))
 (some false)
 ((iter (ρ := (Unit) ⊕ (Unit)) (fun s_2 : Int =>
 cond (ltI s_2 (a_.length : Int))
 ((at? a_ s_2).bind fun e_10 =>
 (at? b_ s_2).bind fun e_15 =>
 (laws_eqHeap e_10 e_15).bind fun y_20 =>
 cond y_20
 (some (.inl (addI s_2 1)))
 (some (.inr (.inl ()))))
 (some (.inr (.inr ())))) 0).bind fun r_24 =>
 Sum.elim (fun _r_24 =>
 some false)
 (fun _r_24 =>
 some true) r_24)

def laws_heldIntS (a_ : (List Int)) (k_ : Int) : Option (Int) :=
 (iter (ρ := (Int) ⊕ (Int)) (fun s_1 : Int × Int =>
 cond (ltI s_1.2 (a_.length : Int))
 ((at? a_ s_1.2).bind fun e_9 =>
 cond (neI e_9 s_1.1)
 (some (.inr (.inl (-1))))
 (some (.inl (addI s_1.1 1, addI s_1.2 1))))
 (some (.inr (.inr s_1.1)))) (k_, 0)).bind fun r_15 =>
 Sum.elim (fun r_15 =>
 some r_15)
 (fun r_15 =>
 some r_15) r_15

def laws_heldStateS (a_ : (List TState)) (k_ : Int) : Option (Int) :=
 (iter (ρ := (Int) ⊕ (Int)) (fun s_1 : Int × Int =>
 cond (ltI s_1.2 (a_.length : Int))
 ((at? a_ s_1.2).bind fun e_9 =>
 cond (neI e_9.point s_1.1)
 (some (.inr (.inl (-1))))
 ((at? a_ s_1.2).bind fun _ =>
 (laws_heldIntS e_9.heap.vars (addI s_1.1 1)).bind fun y_20 =>
 cond (ltI y_20 0)
 (some (.inr (.inl (-1))))
 ((at? a_ s_1.2).bind fun _ =>
 (laws_heldIntS e_9.heap.next y_20).bind fun y_29 =>
 cond (ltI y_29 0)
 (some (.inr (.inl (-1))))
 (some (.inl (y_29, addI s_1.2 1))))))
 (some (.inr (.inr s_1.1)))) (k_, 0)).bind fun r_33 =>
 Sum.elim (fun r_33 =>
 some r_33)
 (fun r_33 =>
 some r_33) r_33

def laws_FnExactStatesFrom (aP : TProgram) (aStart : (List THeap)) : Option (Bool) :=
 (laws_szProgram aP 1048576).bind fun y_1 =>
 cond (ltI y_1 0)
 (some true)
 ((laws_szHeapS aStart y_1).bind fun y_5 =>
 cond (ltI y_5 0)
 (some true)
 ((laws_toProgram aP).bind fun y_9 =>
 (laws_toHeapS aStart).bind fun y_12 =>
 (spec_StatesFrom y_9 y_12).bind fun y_15 =>
 (laws_toProgram aP).bind fun _ =>
 (laws_toHeapS aStart).bind fun _ =>
 (impl_StatesFrom y_9 y_12).bind fun y_22 =>
 (laws_eqStateS y_22.1 y_15.1).bind fun y_25 =>
 cond y_25
 (cond (neB y_22.2 y_15.2)
 (some false)
 ((laws_toProgram aP).bind fun _ =>
 (laws_eqProgram y_9 y_9).bind fun y_32 =>
 cond y_32
 ((laws_toHeapS aStart).bind fun _ =>
 (laws_eqHeapS y_12 y_12).bind fun y_38 =>
 cond y_38
 ((markO mkF_markProgram y_9 1).bind fun r_42 =>
 (markO mkF_markHeapS y_12 r_42.2).bind fun r_66 =>
 cond (ltI r_66.2 0)
 (some false)
 ((laws_eqStateS y_22.1 y_15.1).bind fun y_90 =>
 cond y_90
 ((markO mkF_markStateS y_22.1 1).bind fun r_94 =>
 (laws_heldStateS r_94.1 1).bind fun y_116 =>
 cond (ltI y_116 0)
 (some false)
 (cond (neI y_116 r_94.2)
 (some false)
 ((laws_toProgram aP).bind fun y_121 =>
 (laws_toHeapS aStart).bind fun y_124 =>
 (impl_StatesFrom y_121 y_124).bind fun y_127 =>
 (laws_eqStateS y_127.1 y_15.1).bind fun y_130 =>
 cond y_130
 (cond (neB y_127.2 y_15.2)
 (some false)
 ((laws_heldStateS r_94.1 1).bind fun _ =>
 some true))
 (some false))))
 (some false)))
 (some false))
 (some false)))
 (some false)))

end Go.Ev


namespace Go.Ev
def small (n : Nat) : Prop := n ≤ 4000000

theorem findE {α : Type} (p : α → Bool) : ∀ (xs : List α) (i : Nat),
 foldE (β := Unit) (ρ := Int ⊕ Unit) (fun _ i x => if p x then some (.inr (.inl (i : Int))) else some (.inl ())) (fun _ => some (.inr ())) () i xs =
  some (match xs.findIdx? p with | some j => .inl ((i + j : Nat) : Int) | none => .inr ())
 | [], i => rfl
 | x :: xs, i => by
  rw [foldE]
  by_cases h : p x = true
  ·simp [h, List.findIdx?_cons]
  ·simp only [h, if_false, Bool.false_eq_true]
   rw [findE p xs (i + 1), List.findIdx?_cons]
   simp only [h, if_false, Bool.false_eq_true]
   cases xs.findIdx? p with
   | none => rfl
   | some j => simp only [Option.map_some, Option.some.injEq, Sum.inl.injEq]; omega

theorem index_int (xs : List Int) (v : Int) (hl : small xs.length) : slices_Index_int xs v = some (match xs.findIdx? (fun x => decide (v = x)) with | some j => (j : Int) | none => -1) := by
 unfold slices_Index_int
 rw [iter_list xs (fun (_ : Unit) i => i) (fun _ i x => if decide (v = x) = true then some (.inr (.inl (i : Int))) else some (.inl ())) (fun _ => some (.inr ())) (fun b i x hx => ?_) (fun b => ?_) (), findE]
 ·cases xs.findIdx? (fun x => decide (v = x)) with
  | none => rfl
  | some j => simp
 ·have hlt := (List.getElem?_eq_some_iff.1 hx).1
  unfold small at hl
  rw [at_nat, hx, addI_eq (by omega) (by omega)]
  simp only [ltI, eqI, cond_dec, Option.bind_some]
  rw [if_pos (by omega)]
  by_cases h : v = x <;> simp [h]
 ·simp [ltI]

theorem contains_int (xs : List Int) (v : Int) (hl : small xs.length) : zak xs v = some (decide (v ∈ xs)) := by
 unfold zak
 rw [index_int xs v hl]
 simp only [Option.bind_some, leI, Option.some.injEq]
 cases h : xs.findIdx? (fun x => decide (v = x)) with
 | none =>
  rw [List.findIdx?_eq_none_iff] at h
  have : v ∉ xs := fun hm => by simpa using h v hm
  simp [this]
 | some j =>
  rw [List.findIdx?_eq_some_iff_getElem] at h
  obtain ⟨hj, hp, _⟩ := h
  have : v ∈ xs := by rw [of_decide_eq_true hp]; exact List.getElem_mem hj
  simp [this]

theorem within_eq (n lo hi : Int) : impl_within n lo hi = some (decide (lo ≤ n ∧ n ≤ hi)) := by
 unfold impl_within
 by_cases h : lo ≤ n <;> simp [leI, ltI, h]
theorem l1In_eq (n lo hi : Int) : spec_l1In n lo hi = some (decide (lo ≤ n ∧ n ≤ hi)) := by
 unfold spec_l1In
 by_cases h : lo ≤ n <;> simp [leI, ltI, h]

theorem positions_eq : impl_Positions = spec_Positions := rfl
def posF (n : Int) : Nat → List Int → List Int
 | _, [] => []
 | i, x :: xs => if x = n then (i : Int) :: posF n (i + 1) xs else posF n (i + 1) xs
theorem posE (n : Int) (N : Nat) (hN : small N) : ∀ (xs : List Int) (i : Nat) (acc : List Int), acc.length + xs.length ≤ N →
 foldE (β := List Int) (ρ := List Int) (fun acc i x => if x = n then (room (acc.length + 1) 8).bind fun _ => some (.inl (acc ++ [(i : Int)])) else some (.inl acc)) (fun acc => some acc) acc i xs = some (acc ++ posF n i xs)
 | [], i, acc, _ => by simp [foldE, posF]
 | x :: xs, i, acc, h => by
  rw [foldE]
  simp only [List.length_cons] at h
  by_cases hx : x = n
  ·unfold small at hN
   have hr : room (acc.length + 1) 8 = some () := by unfold room maxBytes; rw [if_pos (by omega)]
   simp only [hx, if_true, hr, Option.bind_some]
   rw [posE n N hN xs (i + 1) (acc ++ [(i : Int)]) (by simp; omega)]
   simp [posF, hx]
  ·simp only [hx, if_false]
   rw [posE n N hN xs (i + 1) acc (by omega)]
   simp [posF, hx]
theorem positions (xs : List Int) (n : Int) (hl : small xs.length) : spec_Positions xs n = some (posF n 0 xs) := by
 unfold spec_Positions
 rw [iter_list xs (fun (b : List Int) i => (b, i)) (fun acc i x => if x = n then (room (acc.length + 1) 8).bind fun _ => some (.inl (acc ++ [(i : Int)])) else some (.inl acc)) (fun acc => some acc) (fun b i x hx => ?_) (fun b => ?_) [], posE n xs.length hl xs 0 [] (by simp)]
 ·simp
 ·have hlt := (List.getElem?_eq_some_iff.1 hx).1
  unfold small at hl
  simp only [at_nat, hx, ltI, eqI, cond_dec, Option.bind_some]
  rw [if_pos (by omega), addI_eq (by omega) (by omega)]
  by_cases h : x = n
  ·simp only [h, if_true, List.length_singleton]
   cases room (b.length + 1) 8 <;> rfl
  ·simp [h]
 ·simp [ltI]
theorem posF_mem (n : Int) : ∀ (xs : List Int) (i : Nat), 0 < (posF n i xs).length ↔ n ∈ xs
 | [], i => by simp [posF]
 | x :: xs, i => by
  simp only [posF]
  by_cases h : x = n
  ·simp [h]
  ·have := posF_mem n xs (i + 1)
   simp only [h, if_false, this, List.mem_cons]
   constructor
   ·exact .inr
   ·rintro (h' | h')
    ·exact absurd h'.symm h
    ·exact h'
theorem l7Has (xs : List Int) (n : Int) (hl : small xs.length) : spec_l7Has xs n = some (decide (n ∈ xs)) := by
 unfold spec_l7Has
 rw [positions xs n hl]
 have := posF_mem n xs 0
 simp only [Option.bind_some, ltI, Option.some.injEq]
 rw [decide_eq_decide, ← this]
 omega

theorem nodup_bound : ∀ (n : Nat) (xs : List Int), xs.Nodup → (∀ x ∈ xs, 0 ≤ x ∧ x < n) → xs.length ≤ n
 | 0, xs, _, h => by
  cases xs with
  | nil => exact Nat.le_refl _
  | cons x xs => have := h x (List.mem_cons_self ..); omega
 | n + 1, xs, hn, h => by
  have h1 := nodup_bound n (xs.erase (n : Int)) (hn.erase _) (fun x hx => by
   have hx' := (hn.mem_erase_iff).1 hx
   have := h x hx'.2
   have hne := hx'.1
   omega)
  by_cases hm : (n : Int) ∈ xs
  ·rw [List.length_erase_of_mem hm] at h1; omega
  ·rw [List.erase_of_not_mem hm] at h1; omega

theorem isCell_eq (h : THeap) (n : Int) (hs : small h.next.length) : impl_Heap_isCell h n = some (decide (0 ≤ n ∧ n < (h.next.length : Int))) := by
 unfold impl_Heap_isCell
 unfold small at hs
 rw [within_eq, subI_eq (by omega) (by omega)]
 simp only [Option.bind_some, Option.some.injEq, decide_eq_decide]
 omega

def fol (next : List Int) : Nat → Int → List Int → (List Int) ⊕ Unit
 | 0, _, out => .inl out
 | f + 1, cur, out => if cur = -1 then .inl out else if cur ∈ out then .inl out else if 0 ≤ cur ∧ cur < (next.length : Int) then fol next f (next.getD cur.toNat 0) (out ++ [cur]) else .inr ()

theorem at_in {xs : List Int} {c : Int} (h : 0 ≤ c ∧ c < (xs.length : Int)) : at? xs c = some (xs.getD c.toNat 0) := by
 unfold at?
 rw [if_pos h.1]
 have : c.toNat < xs.length := by omega
 simp [List.getD, List.getElem?_eq_getElem this]
structure Seen (next out : List Int) : Prop where
 nd : out.Nodup
 rng : ∀ x ∈ out, 0 ≤ x ∧ x < (next.length : Int)
theorem Seen.len {next out : List Int} (h : Seen next out) : out.length ≤ next.length := nodup_bound _ _ h.nd h.rng
theorem Seen.push {next out : List Int} (h : Seen next out) {c : Int} (hc : c ∉ out) (hr : 0 ≤ c ∧ c < (next.length : Int)) : Seen next (out ++ [c]) :=
 ⟨by rw [List.nodup_append]; exact ⟨h.nd, by simp, fun a ha b hb => by simp at hb; subst hb; rintro rfl; exact hc ha⟩, fun x hx => by
  rcases List.mem_append.1 hx with hx | hx
  ·exact h.rng x hx
  ·simp at hx; subst hx; exact hr⟩

theorem spec_fol (h : THeap) (hs : small h.next.length) : ∀ (f : Nat) (cur : Int) (out : List Int), Seen h.next out → h.next.length + 1 ≤ f + out.length →
 iter (ρ := ((List Int)) ⊕ (Unit)) (fun s_1 : Int × (List Int) =>
  cond (neI s_1.1 (-1))
   ((spec_l7Has s_1.2 s_1.1).bind fun y_12 =>
    cond y_12
     (some (.inr (.inl s_1.2)))
     ((spec_l1In s_1.1 0 (subI (h.next.length : Int) 1)).bind fun y_16 =>
      cond y_16
       ((room (s_1.2.length + [s_1.1].length) 8).bind fun _ =>
        (at? h.next s_1.1).bind fun e_22 =>
         some (.inl (e_22, s_1.2 ++ [s_1.1])))
       (some (.inr (.inr ())))))
   (some (.inr (.inl s_1.2)))) (cur, out) = some (fol h.next f cur out)
 | 0, cur, out, hS, hf => by have := hS.len; omega
 | f + 1, cur, out, hS, hf => by
  have hl := hS.len
  have hs' := hs
  unfold small at hs'
  have hso : small out.length := by unfold small; omega
  by_cases h1 : cur = -1
  ·rw [iter_inr (r := .inl out) (by simp [neI, h1])]
   simp [fol, h1]
  ·by_cases h2 : cur ∈ out
   ·rw [iter_inr (r := .inl out) (by simp [neI, h1, l7Has out cur hso, h2])]
    simp [fol, h1, h2]
   ·by_cases h3 : 0 ≤ cur ∧ cur < (h.next.length : Int)
    ·have hr : room (out.length + 1) 8 = some () := by unfold room maxBytes; rw [if_pos (by omega)]
     rw [iter_inl (s' := (h.next.getD cur.toNat 0, out ++ [cur])) (by
      have h4 : 0 ≤ cur ∧ cur ≤ (h.next.length : Int) - 1 := by omega
      simp only [neI, h1, decide_false, Bool.not_false, cond_true, l7Has out cur hso, h2, Option.bind_some, cond_false, l1In_eq, subI_eq (a := (h.next.length : Int)) (b := 1) (by omega) (by omega), h4, and_self, decide_true, List.length_singleton, hr, at_in h3]),
      spec_fol h hs f _ _ (hS.push h2 h3) (by simp; omega)]
     simp [fol, h1, h2, h3]
    ·rw [iter_inr (r := .inr ()) (by
      have h4 : ¬ (0 ≤ cur ∧ cur ≤ (h.next.length : Int) - 1) := by omega
      simp only [neI, h1, decide_false, Bool.not_false, cond_true, l7Has out cur hso, h2, Option.bind_some, cond_false, l1In_eq, subI_eq (a := (h.next.length : Int)) (b := 1) (by omega) (by omega), h4])]
     simp [fol, h1, h2, h3]

def folL (next : List Int) (c : Int) : List Int := Sum.elim id (fun _ => []) (fol next (next.length + 1) c [])
theorem spec_followed (h : THeap) (hs : small h.next.length) (c : Int) : spec_Followed h c = some (folL h.next c) := by
 unfold spec_Followed
 rw [spec_fol h hs (h.next.length + 1) c [] ⟨by simp, by simp⟩ (by simp)]
 unfold folL
 cases fol h.next (h.next.length + 1) c [] <;> rfl

theorem impl_fol (h : THeap) (hs : small h.next.length) (cell : Int) (hc : cell ≠ -1) : ∀ (f : Nat) (cur : Int) (out : List Int), Seen h.next out → h.next.length + 1 ≤ f + out.length →
 iter (ρ := ((List Int)) ⊕ (Unit)) (fun s_1 : (List Int) × Int =>
  cond (neI s_1.2 (-1))
   ((impl_Heap_isCell h s_1.2).bind fun y_13 =>
    cond y_13
     ((zak s_1.1 s_1.2).bind fun y_17 =>
      cond y_17
       (some (.inr (.inl s_1.1)))
       ((room (s_1.1.length + [s_1.2].length) 8).bind fun _ =>
        (at? h.next s_1.2).bind fun e_23 =>
         some (.inl (s_1.1 ++ [s_1.2], e_23))))
     (some (.inr (.inr ()))))
   (cond (eqI cell (-1))
    ((impl_Heap_isCell h s_1.2).bind fun y_29 =>
     cond y_29
      ((zak s_1.1 s_1.2).bind fun y_33 =>
       cond y_33
        (some (.inr (.inl s_1.1)))
        ((room (s_1.1.length + [s_1.2].length) 8).bind fun _ =>
         (at? h.next s_1.2).bind fun e_39 =>
          some (.inl (s_1.1 ++ [s_1.2], e_39))))
      (some (.inr (.inr ()))))
    (some (.inr (.inl s_1.1))))) (out, cur) = some (fol h.next f cur out)
 | 0, cur, out, hS, hf => by have := hS.len; omega
 | f + 1, cur, out, hS, hf => by
  have hl := hS.len
  have hs' := hs
  unfold small at hs'
  have hso : small out.length := by unfold small; omega
  by_cases h1 : cur = -1
  ·rw [iter_inr (r := .inl out) (by simp [neI, eqI, h1, hc])]
   simp [fol, h1]
  ·by_cases h3 : 0 ≤ cur ∧ cur < (h.next.length : Int)
   ·by_cases h2 : cur ∈ out
    ·rw [iter_inr (r := .inl out) (by simp [neI, h1, isCell_eq h cur hs, h3, contains_int out cur hso, h2])]
     simp [fol, h1, h2]
    ·have hr : room (out.length + 1) 8 = some () := by unfold room maxBytes; rw [if_pos (by omega)]
     rw [iter_inl (s' := (out ++ [cur], h.next.getD cur.toNat 0)) (by
      simp only [neI, h1, decide_false, Bool.not_false, cond_true, isCell_eq h cur hs, h3, contains_int out cur hso, h2, Option.bind_some, cond_false, and_self, decide_true, List.length_singleton, hr, at_in h3]),
      impl_fol h hs cell hc f _ _ (hS.push h2 h3) (by simp; omega)]
     simp [fol, h1, h2, h3]
   ·have h2 : cur ∉ out := fun hm => h3 (hS.rng cur hm)
    rw [iter_inr (r := .inr ()) (by simp only [neI, h1, decide_false, Bool.not_false, cond_true, isCell_eq h cur hs, h3, Option.bind_some, cond_false])]
    simp [fol, h1, h2, h3]

theorem impl_followed (h : THeap) (hs : small h.next.length) (c : Int) : impl_Followed h c = some (folL h.next c) := by
 unfold impl_Followed
 by_cases hc : c = -1
 ·rw [iter_inr (r := .inr ()) (by
   have : ¬ (0 ≤ c ∧ c < (h.next.length : Int)) := by omega
   simp [neI, eqI, hc, isCell_eq h _ hs])]
  simp [folL, fol, hc]
 ·rw [impl_fol h hs c hc (h.next.length + 1) c [] ⟨by simp, by simp⟩ (by simp)]
  unfold folL
  cases fol h.next (h.next.length + 1) c [] <;> rfl
theorem folL_len (next : List Int) (c : Int) : (folL next c).length ≤ next.length := by
 have key : ∀ f cur out, Seen next out → (Sum.elim id (fun _ => []) (fol next f cur out) : List Int).length ≤ next.length := by
  intro f
  induction f with
  | zero => intro cur out hS; exact hS.len
  | succ f ih =>
   intro cur out hS
   simp only [fol]
   split
   ·exact hS.len
   ·split
    ·exact hS.len
    ·rename_i h2
     split
     ·rename_i h3; exact ih _ _ (hS.push h2 h3)
     ·simp
 exact key _ _ _ ⟨by simp, by simp⟩

theorem allE {α ρ : Type} (p : α → Bool) (rf rt : ρ) : ∀ (xs : List α) (i : Nat), foldE (β := Unit) (fun _ _ x => if p x then some (.inl ()) else some (.inr rf)) (fun _ => some rt) () i xs = some (if xs.all p then rt else rf)
 | [], _ => rfl
 | x :: xs, i => by
  rw [foldE]
  by_cases h : p x = true
  ·simp only [h, if_true]
   rw [allE p rf rt xs (i + 1)]
   simp [h]
  ·simp [h]
def inH (next : List Int) (n : Int) : Bool := decide (-1 ≤ n ∧ n ≤ (next.length : Int) - 1)
def cellsB (h : THeap) : Bool := h.vars.all (inH h.next) && h.next.all (inH h.next)
theorem l7Cells (h : THeap) (hv : small h.vars.length) (hs : small h.next.length) : spec_l7Cells h = some (cellsB h) := by
 have hv' := hv
 have hs' := hs
 unfold small at hv' hs'
 unfold spec_l7Cells
 rw [iter_list h.vars (fun (_ : Unit) i => i) (fun _ _ x => if inH h.next x then some (.inl ()) else some (.inr (.inl ()))) (fun _ => some (.inr ())) (fun b i x hx => ?_) (fun b => ?_) (), allE]
 ·simp only [Option.bind_some]
  by_cases h1 : h.vars.all (inH h.next) = true
  ·rw [if_pos h1]
   simp only [Sum.elim_inr]
   rw [iter_list h.next (fun (_ : Unit) i => i) (fun _ _ x => if inH h.next x then some (.inl ()) else some (.inr (.inl false))) (fun _ => some (.inr ())) (fun b i x hx => ?_) (fun b => ?_) (), allE]
   ·by_cases h2 : h.next.all (inH h.next) = true
    ·simp only [h2, if_true, Option.bind_some, Sum.elim_inr, cellsB, h1, Bool.and_self]
    ·simp only [h2, if_false, Option.bind_some, Sum.elim_inl, cellsB, h1, Bool.true_and, Bool.false_eq_true]
   ·have hlt := (List.getElem?_eq_some_iff.1 hx).1
    simp only [at_nat, hx, ltI, cond_dec, Option.bind_some, l1In_eq]
    rw [if_pos (by omega), addI_eq (by omega) (by omega), subI_eq (by omega) (by omega)]
    by_cases h3 : -1 ≤ x ∧ x ≤ (h.next.length : Int) - 1 <;> simp [inH, h3]
   ·simp [ltI]
  ·rw [if_neg h1]
   simp [cellsB, h1]
 ·have hlt := (List.getElem?_eq_some_iff.1 hx).1
  simp only [at_nat, hx, ltI, cond_dec, Option.bind_some, l1In_eq]
  rw [if_pos (by omega), addI_eq (by omega) (by omega), subI_eq (by omega) (by omega)]
  by_cases h3 : -1 ≤ x ∧ x ≤ (h.next.length : Int) - 1 <;> simp [inH, h3]
 ·simp [ltI]

theorem indexF {α : Type} (xs : List α) (f : α → Option Bool) (p : α → Bool) (hf : ∀ x ∈ xs, f x = some (p x)) (hl : small xs.length) :
 iter (ρ := (Int) ⊕ (Unit)) (fun s_1 : Int =>
  cond (ltI s_1 (xs.length : Int))
   ((at? xs s_1).bind fun e_12 =>
    (f e_12).bind fun y_17 =>
     cond y_17
      (some (.inr (.inl s_1)))
      (some (.inl (addI s_1 1))))
   (some (.inr (.inr ())))) 0 = some (match xs.findIdx? p with | some j => .inl (j : Int) | none => .inr ()) := by
 rw [iter_list xs (fun (_ : Unit) i => i) (fun _ i x => if p x = true then some (.inr (.inl (i : Int))) else some (.inl ())) (fun _ => some (.inr ())) (fun b i x hx => ?_) (fun b => ?_) (), findE]
 ·simp
 ·have hlt := (List.getElem?_eq_some_iff.1 hx).1
  unfold small at hl
  simp only [at_nat, hx, Option.bind_some, ltI, cond_dec, hf x (List.mem_of_getElem? hx)]
  rw [if_pos (by omega), addI_eq (by omega) (by omega)]
  cases p x <;> simp
 ·simp [ltI]
theorem containsF_of {α : Type} (xs : List α) (p : α → Bool) : leI 0 (match xs.findIdx? p with | some j => (j : Int) | none => -1) = xs.any p := by
 cases h : xs.findIdx? p with
 | none =>
  rw [List.findIdx?_eq_none_iff] at h
  have : xs.any p = false := List.any_eq_false.2 fun x hx => by simp [h x hx]
  rw [this]; rfl
 | some j =>
  rw [List.findIdx?_eq_some_iff_getElem] at h
  obtain ⟨hj, hp, _⟩ := h
  have : xs.any p = true := List.any_eq_true.2 ⟨_, List.getElem_mem hj, hp⟩
  rw [this]
  simp [leI]
theorem containsFunc_int (xs : List Int) (f : Int → Option Bool) (p : Int → Bool) (hf : ∀ x ∈ xs, f x = some (p x)) (hl : small xs.length) : slices_ContainsFunc_int xs f = some (xs.any p) := by
 unfold slices_ContainsFunc_int slices_IndexFunc_int
 rw [indexF xs f p hf hl, ← containsF_of]
 cases xs.findIdx? p <;> rfl
theorem room_small {n b : Nat} (hn : n ≤ 4000000) (hb : b ≤ 1000) : room n b = some () := by
 unfold room maxBytes
 have : n * (b + 1) ≤ 4000000 * 1001 := Nat.mul_le_mul hn (by omega)
 rw [if_pos (by omega)]
theorem areCells (h : THeap) (hvs : small (h.vars ++ h.next).length) (hv : small h.vars.length) (hs : small h.next.length) : impl_Heap_areCells h = some (cellsB h) := by
 have hv' := hv
 have hs' := hs
 unfold small at hv' hs'
 have hc : slices_Concat_int [h.vars, h.next] = some (h.vars ++ h.next) := by
  unfold slices_Concat_int lib_Concat
  rw [room_small (by simp) (by omega), room_small (by unfold small at hvs; simpa using hvs) (by omega)]
  simp
 unfold impl_Heap_areCells
 rw [hc]
 have hp : ∀ n : Int, impl_Heap_areCells_1 n h = some (!inH h.next n) := fun n => by
  unfold impl_Heap_areCells_1
  rw [isCell_eq h n hs]
  by_cases h1 : n = -1
  ·simp [neI, h1, inH]; omega
  ·simp only [neI, h1, decide_false, Bool.not_false, cond_true, Option.bind_some, Option.some.injEq, inH]
   have : (0 ≤ n ∧ n < (h.next.length : Int)) ↔ (-1 ≤ n ∧ n ≤ (h.next.length : Int) - 1) := by omega
   rw [decide_eq_decide.2 this]
   rfl
 have hcf : slices_ContainsFunc_int (h.vars ++ h.next) (fun x0 => impl_Heap_areCells_1 x0 h) = some ((h.vars ++ h.next).any fun n => !inH h.next n) := by
  exact containsFunc_int _ _ _ (fun x _ => hp x) hvs
 simp only [Option.bind_some, hcf, cellsB, List.any_append, Option.some.injEq]
 rw [← List.not_all_eq_any_not, ← List.not_all_eq_any_not]
 cases h.vars.all (inH h.next) <;> cases h.next.all (inH h.next) <;> rfl

theorem folL_seen (next : List Int) (c : Int) : Seen next (folL next c) := by
 have key : ∀ f cur out, Seen next out → Seen next (Sum.elim id (fun _ => []) (fol next f cur out) : List Int) := by
  intro f
  induction f with
  | zero => intro cur out hS; exact hS
  | succ f ih =>
   intro cur out hS
   simp only [fol]
   split
   ·exact hS
   ·split
    ·exact hS
    ·rename_i h2
     split
     ·rename_i h3; exact ih _ _ (hS.push h2 h3)
     ·exact ⟨by simp, by simp⟩
 exact key _ _ _ ⟨by simp, by simp⟩
def push (acc : List Int) (x : Int) : List Int := if x ∈ acc then acc else acc ++ [x]
theorem Seen.push' {next out : List Int} (h : Seen next out) {c : Int} (hr : 0 ≤ c ∧ c < (next.length : Int)) : Seen next (Go.Ev.push out c) := by
 unfold Go.Ev.push
 split
 ·exact h
 ·rename_i hc; exact h.push hc hr
theorem Seen.pushs {next : List Int} : ∀ (ys out : List Int), Seen next out → (∀ x ∈ ys, 0 ≤ x ∧ x < (next.length : Int)) → Seen next (ys.foldl Go.Ev.push out)
 | [], _, h, _ => h
 | y :: ys, out, h, hr => Seen.pushs ys _ (h.push' (hr y (List.mem_cons_self ..))) fun x hx => hr x (List.mem_cons_of_mem _ hx)
theorem pushE (next : List Int) (hs : small next.length) (q : List Int → Int → Option Bool) (hq : ∀ acc x, small acc.length → q acc x = some (decide (x ∈ acc))) : ∀ (ys : List Int) (i : Nat) (acc : List Int), Seen next acc → (∀ x ∈ ys, 0 ≤ x ∧ x < (next.length : Int)) →
 foldE (β := List Int) (ρ := List Int) (fun acc _ x => (q acc x).bind fun b => cond b (some (.inl acc)) ((room (acc.length + 1) 8).bind fun _ => some (.inl (acc ++ [x])))) (fun acc => some acc) acc i ys = some (ys.foldl push acc)
 | [], _, _, _, _ => rfl
 | y :: ys, i, acc, h, hr => by
  have hl := h.len
  unfold small at hs
  have hsa : small acc.length := by unfold small; omega
  rw [foldE]
  by_cases hm : y ∈ acc
  ·simp only [hq acc y hsa, hm, decide_true, Option.bind_some, cond_true]
   rw [pushE next hs q hq ys (i + 1) acc h fun x hx => hr x (List.mem_cons_of_mem _ hx)]
   simp [push, hm]
  ·have hroom : room (acc.length + 1) 8 = some () := by unfold room maxBytes; rw [if_pos (by omega)]
   simp only [hq acc y hsa, hm, decide_false, Option.bind_some, cond_false, hroom]
   rw [pushE next hs q hq ys (i + 1) _ (h.push hm (hr y (List.mem_cons_self ..))) fun x hx => hr x (List.mem_cons_of_mem _ hx)]
   simp [push, hm]
def ordL (next vars : List Int) : List Int := vars.foldl (fun acc e => (folL next e).foldl push acc) []
theorem ordSeen (next : List Int) : ∀ (vs acc : List Int), Seen next acc → Seen next (vs.foldl (fun acc e => (folL next e).foldl push acc) acc)
 | [], _, h => h
 | v :: vs, acc, h => ordSeen next vs _ (Seen.pushs _ _ h (folL_seen next v).rng)

theorem ordE (next : List Int) (F : List Int → Int → Option (List Int)) (hF : ∀ acc e, Seen next acc → F acc e = some ((folL next e).foldl push acc)) : ∀ (vs : List Int) (i : Nat) (acc : List Int), Seen next acc →
 foldE (β := List Int) (ρ := List Int) (fun acc _ e => (F acc e).map .inl) (fun acc => some acc) acc i vs = some (vs.foldl (fun acc e => (folL next e).foldl push acc) acc)
 | [], _, _, _ => rfl
 | v :: vs, i, acc, h => by
  rw [foldE, hF acc v h]
  simp only [Option.map_some]
  rw [ordE next F hF vs (i + 1) _ (Seen.pushs _ _ h (folL_seen next v).rng)]
  rfl
theorem met (h : THeap) (hv : small h.vars.length) (hs : small h.next.length) : impl_Heap_met h = some (ordL h.next h.vars) := by
 unfold impl_Heap_met
 have hv' := hv
 unfold small at hv'
 rw [iter_list h.vars (fun (b : List Int) i => (b, i)) (fun acc _ e => (iter (ρ := (List Int)) (fun s_22 : Int × (List Int) =>
               cond (ltI s_22.1 ((folL h.next e).length : Int))
                ((at? (folL h.next e) s_22.1).bind fun e_38 =>
                 (zak s_22.2 e_38).bind fun y_43 =>
                  cond y_43
                   (some (.inl (addI s_22.1 1, s_22.2)))
                   ((room (s_22.2.length + [e_38].length) 8).bind fun _ =>
                    some (.inl (addI s_22.1 1, s_22.2 ++ [e_38]))))
                (some (.inr s_22.2))) (0, acc)).map .inl) (fun acc => some acc) (fun b i x hx => ?_) (fun b => ?_) []]
 ·rw [ordE h.next (fun acc e => iter (ρ := (List Int)) (fun s_22 : Int × (List Int) =>
             cond (ltI s_22.1 ((folL h.next e).length : Int))
              ((at? (folL h.next e) s_22.1).bind fun e_38 =>
               (zak s_22.2 e_38).bind fun y_43 =>
                cond y_43
                 (some (.inl (addI s_22.1 1, s_22.2)))
                 ((room (s_22.2.length + [e_38].length) 8).bind fun _ =>
                  some (.inl (addI s_22.1 1, s_22.2 ++ [e_38]))))
              (some (.inr s_22.2))) (0, acc)) (fun acc e hS => ?_) h.vars 0 [] ⟨by simp, by simp⟩]
  ·rfl
  ·have hfl := folL_len h.next e
   have hs' := hs
   unfold small at hs'
   rw [iter_list (folL h.next e) (fun (b : List Int) i => (i, b)) (fun acc _ x => (zak acc x).bind fun b => cond b (some (.inl acc)) ((room (acc.length + 1) 8).bind fun _ => some (.inl (acc ++ [x])))) (fun acc => some acc) (fun b i x hx => ?_) (fun b => ?_) acc,
    pushE h.next hs zak contains_int _ _ _ hS (folL_seen h.next e).rng]
   ·have hlt := (List.getElem?_eq_some_iff.1 hx).1
    simp only [at_nat, hx, Option.bind_some, ltI, cond_dec]
    rw [if_pos (by omega), addI_eq (by omega) (by omega)]
    cases zak b x with
    | none => rfl
    | some t =>
     cases t with
     | true => rfl
     | false =>
      simp only [Option.bind_some, cond_false, List.length_singleton]
      cases room (b.length + 1) 8 <;> rfl
   ·simp [ltI]
 ·have hlt := (List.getElem?_eq_some_iff.1 hx).1
  simp only [at_nat, hx, Option.bind_some, ltI, cond_dec, impl_followed h hs]
  rw [if_pos (by omega), addI_eq (by omega) (by omega)]
  generalize iter _ _ = r
  cases r <;> rfl
 ·simp [ltI]
theorem l7Order (h : THeap) (hv : small h.vars.length) (hs : small h.next.length) : spec_l7Order h = some (ordL h.next h.vars) := by
 unfold spec_l7Order
 have hv' := hv
 unfold small at hv'
 rw [iter_list h.vars (fun (b : List Int) i => (b, i)) (fun acc _ e => (iter (ρ := (List Int)) (fun s_22 : Int × (List Int) =>
               cond (ltI s_22.1 ((folL h.next e).length : Int))
                ((at? (folL h.next e) s_22.1).bind fun e_38 =>
                 (spec_l7Has s_22.2 e_38).bind fun y_43 =>
                  cond y_43
                   (some (.inl (addI s_22.1 1, s_22.2)))
                   ((at? (folL h.next e) s_22.1).bind fun _ =>
                    (room (s_22.2.length + [e_38].length) 8).bind fun _ =>
                     some (.inl (addI s_22.1 1, s_22.2 ++ [e_38]))))
                (some (.inr s_22.2))) (0, acc)).map .inl) (fun acc => some acc) (fun b i x hx => ?_) (fun b => ?_) []]
 ·rw [ordE h.next (fun acc e => iter (ρ := (List Int)) (fun s_22 : Int × (List Int) =>
             cond (ltI s_22.1 ((folL h.next e).length : Int))
              ((at? (folL h.next e) s_22.1).bind fun e_38 =>
               (spec_l7Has s_22.2 e_38).bind fun y_43 =>
                cond y_43
                 (some (.inl (addI s_22.1 1, s_22.2)))
                 ((at? (folL h.next e) s_22.1).bind fun _ =>
                  (room (s_22.2.length + [e_38].length) 8).bind fun _ =>
                   some (.inl (addI s_22.1 1, s_22.2 ++ [e_38]))))
              (some (.inr s_22.2))) (0, acc)) (fun acc e hS => ?_) h.vars 0 [] ⟨by simp, by simp⟩]
  ·rfl
  ·have hfl := folL_len h.next e
   have hs' := hs
   unfold small at hs'
   rw [iter_list (folL h.next e) (fun (b : List Int) i => (i, b)) (fun acc _ x => (spec_l7Has acc x).bind fun b => cond b (some (.inl acc)) ((room (acc.length + 1) 8).bind fun _ => some (.inl (acc ++ [x])))) (fun acc => some acc) (fun b i x hx => ?_) (fun b => ?_) acc,
    pushE h.next hs spec_l7Has l7Has _ _ _ hS (folL_seen h.next e).rng]
   ·have hlt := (List.getElem?_eq_some_iff.1 hx).1
    simp only [at_nat, hx, Option.bind_some, ltI, cond_dec]
    rw [if_pos (by omega), addI_eq (by omega) (by omega)]
    cases spec_l7Has b x with
    | none => rfl
    | some t =>
     cases t with
     | true => rfl
     | false =>
      simp only [Option.bind_some, cond_false, List.length_singleton]
      cases room (b.length + 1) 8 <;> rfl
   ·simp [ltI]
 ·have hlt := (List.getElem?_eq_some_iff.1 hx).1
  simp only [at_nat, hx, Option.bind_some, ltI, cond_dec, spec_followed h hs]
  rw [if_pos (by omega), addI_eq (by omega) (by omega)]
  generalize iter _ _ = r
  cases r <;> rfl
 ·simp [ltI]

def Tot {α : Type} (o : Option α) (Q : α → Prop) : Prop := ∃ a, o = some a ∧ Q a
theorem Tot.ret {α : Type} {a : α} {Q : α → Prop} (h : Q a) : Tot (some a) Q := ⟨a, rfl, h⟩
theorem Tot.bind {α β : Type} {o : Option α} {f : α → Option β} {P : α → Prop} {Q : β → Prop} (h : Tot o P) (hf : ∀ a, P a → Tot (f a) Q) : Tot (o.bind f) Q := by
 obtain ⟨a, rfl, hP⟩ := h
 exact hf a hP
theorem Tot.mono {α : Type} {o : Option α} {P Q : α → Prop} (h : Tot o P) (hq : ∀ a, P a → Q a) : Tot o Q := by
 obtain ⟨a, h1, h2⟩ := h
 exact ⟨a, h1, hq a h2⟩
theorem Tot.eq {α : Type} {o : Option α} {a : α} (h : Tot o (· = a)) : o = some a := by
 obtain ⟨b, h1, rfl⟩ := h
 exact h1
theorem Tot.of {α : Type} {o : Option α} {a : α} {Q : α → Prop} (h : o = some a) (hq : Q a) : Tot o Q := ⟨a, h, hq⟩
theorem Tot.loop {σ ρ : Type} {step : σ → Option (σ ⊕ ρ)} {Q : ρ → Prop} (I : Nat → σ → Prop) (n : Nat) {s : σ} (h0 : I 0 s)
 (h : ∀ i s, I i s → i ≤ n → Tot (step s) (Sum.elim (fun s' => i < n ∧ I (i + 1) s') Q)) : Tot (iter step s) Q := by
 have key : ∀ (k i : Nat) (s : σ), I i s → i + k = n → Tot (iter step s) Q := by
  intro k
  induction k with
  | zero =>
   intro i s hI hk
   obtain ⟨o, ho, hq⟩ := h i s hI (by omega)
   cases o with
   | inl s' => exact absurd hq.1 (by omega)
   | inr r => exact ⟨r, iter_inr ho, hq⟩
  | succ k ih =>
   intro i s hI hk
   obtain ⟨o, ho, hq⟩ := h i s hI (by omega)
   cases o with
   | inl s' => rw [iter_inl ho]; exact ih (i + 1) s' hq.2 (by omega)
   | inr r => exact ⟨r, iter_inr ho, hq⟩
 exact key n 0 s h0 (by omega)
theorem loop_flat {α γ σ : Type} (S : List γ → Int → σ) (lo : Int) (xs : List α) (g : α → List γ) {acc : List γ} {step : σ → Option (σ ⊕ List γ)}
 (h : ∀ (i : Nat) x b, xs[i]? = some x → b.length + (g x).length ≤ acc.length + (xs.flatMap g).length → step (S b (lo + i)) = some (.inl (S (b ++ g x) (lo + i + 1))))
 (he : ∀ b, step (S b (lo + xs.length)) = some (.inr b)) : iter step (S acc lo) = some (acc ++ xs.flatMap g) := by
 have key : ∀ (suf : List α) (i : Nat) (b : List γ), xs.drop i = suf → i + suf.length = xs.length → b.length + (suf.flatMap g).length = acc.length + (xs.flatMap g).length →
  iter step (S b (lo + i)) = some (b ++ suf.flatMap g) := by
  intro suf
  induction suf with
  | nil =>
   intro i b _ hi _
   simp only [List.length_nil, Nat.add_zero] at hi
   subst hi
   rw [iter_inr (he b)]; simp
  | cons x suf ih =>
   intro i b hd hi hb
   have hx : xs[i]? = some x := by
    have := congrArg (fun l => l[0]?) hd
    simpa using this
   have hd2 : xs.drop (i + 1) = suf := by
    have := congrArg List.tail hd
    simpa using this
   simp only [List.length_cons] at hi
   simp only [List.flatMap_cons, List.length_append] at hb
   rw [iter_inl (h i x b hx (by omega))]
   have := ih (i + 1) (b ++ g x) hd2 (by omega) (by simp only [List.length_append]; omega)
   rw [show lo + (i : Int) + 1 = lo + ((i + 1 : Nat) : Int) by omega, this]
   simp
 have := key xs 0 acc rfl (by simp) rfl
 simpa using this
def nx (next : List Int) (c : Int) : Int := if c = -1 then -1 else next.getD c.toNat 0
def orb (next : List Int) : Nat → Int → Int
 | 0, c => c
 | k + 1, c => nx next (orb next k c)
def orbs (next : List Int) (c : Int) (m : Nat) : List Int := (List.range m).map fun k => orb next k c
theorem orb_add (next : List Int) (c : Int) : ∀ a b, orb next (a + b) c = orb next a (orb next b c)
 | 0, b => by simp [orb]
 | a + 1, b => by rw [show a + 1 + b = (a + b) + 1 by omega, orb, orb_add next c a b, orb]
theorem orb_stop (next : List Int) : ∀ k, orb next k (-1) = -1
 | 0 => rfl
 | k + 1 => by rw [orb, orb_stop next k]; simp [nx]
def Cells (next : List Int) : Prop := ∀ x ∈ next, -1 ≤ x ∧ x < (next.length : Int)
theorem nx_in {next : List Int} (hC : Cells next) {c : Int} (h : -1 ≤ c ∧ c < (next.length : Int)) : -1 ≤ nx next c ∧ nx next c < (next.length : Int) := by
 unfold nx
 split
 ·omega
 ·have hlt : c.toNat < next.length := by omega
  have := hC _ (List.getElem_mem hlt)
  simpa [List.getD, List.getElem?_eq_getElem hlt] using this
theorem orb_in {next : List Int} (hC : Cells next) {c : Int} (h : -1 ≤ c ∧ c < (next.length : Int)) : ∀ k, -1 ≤ orb next k c ∧ orb next k c < (next.length : Int)
 | 0 => h
 | k + 1 => nx_in hC (orb_in hC h k)
theorem orbs_succ (next : List Int) (c : Int) (m : Nat) : orbs next c (m + 1) = orbs next c m ++ [orb next m c] := by simp [orbs, List.range_succ]
theorem orbs_mem {next : List Int} {c x : Int} {m : Nat} : x ∈ orbs next c m ↔ ∃ k, k < m ∧ orb next k c = x := by simp [orbs]
theorem fol_orb {next : List Int} (hC : Cells next) {c : Int} (hc : -1 ≤ c ∧ c < (next.length : Int)) : ∀ (f m : Nat), Seen next (orbs next c m) → next.length + 1 ≤ f + m →
 ∃ m', fol next f (orb next m c) (orbs next c m) = .inl (orbs next c m') ∧ (orb next m' c = -1 ∨ ∃ k, k < m' ∧ orb next k c = orb next m' c)
 | 0, m, hS, hf => by
  have := hS.len
  simp only [orbs, List.length_map, List.length_range] at this
  omega
 | f + 1, m, hS, hf => by
  rw [fol]
  by_cases h1 : orb next m c = -1
  ·exact ⟨m, by simp [h1], .inl h1⟩
  ·rw [if_neg h1]
   by_cases h2 : orb next m c ∈ orbs next c m
   ·exact ⟨m, by simp [h2], .inr (orbs_mem.1 h2)⟩
   ·have h3 := orb_in hC hc m
    have h4 : 0 ≤ orb next m c ∧ orb next m c < (next.length : Int) := by omega
    rw [if_neg h2, if_pos h4, ← orbs_succ]
    have hn : next.getD (orb next m c).toNat 0 = orb next (m + 1) c := by rw [orb, nx, if_neg h1]
    rw [hn]
    exact fol_orb hC hc f (m + 1) (by rw [orbs_succ]; exact hS.push h2 h4) (by omega)
theorem folL_orb {next : List Int} (hC : Cells next) {c : Int} (hc : -1 ≤ c ∧ c < (next.length : Int)) : ∃ m, folL next c = orbs next c m ∧ (orb next m c = -1 ∨ ∃ k, k < m ∧ orb next k c = orb next m c) := by
 obtain ⟨m, h1, h2⟩ := fol_orb hC hc (next.length + 1) 0 ⟨by simp [orbs], by simp [orbs]⟩ (by omega)
 refine ⟨m, ?_, h2⟩
 unfold folL
 have : fol next (next.length + 1) c [] = .inl (orbs next c m) := by simpa [orbs, orb] using h1
 rw [this]
 rfl
theorem folL_mem {next : List Int} (hC : Cells next) {c : Int} (hc : -1 ≤ c ∧ c < (next.length : Int)) : ∀ (k : Nat), orb next k c ≠ -1 → orb next k c ∈ folL next c := by
 obtain ⟨m, h1, h2⟩ := folL_orb hC hc
 rw [h1]
 intro k
 induction k using Nat.strongRecOn with
 | _ k ih =>
  intro hk
  by_cases hlt : k < m
  ·exact orbs_mem.2 ⟨k, hlt, rfl⟩
  ·have e : orb next k c = orb next (k - m) (orb next m c) := by rw [← orb_add]; congr 1; omega
   rcases h2 with h2 | ⟨j, hj, h2⟩
   ·rw [e, h2, orb_stop] at hk
    exact absurd rfl hk
   ·rw [← h2, ← orb_add] at e
    rw [e] at hk ⊢
    exact ih _ (by omega) hk
theorem orb_per {next : List Int} {i : Int} {p : Nat} (h : orb next p i = i) : ∀ q, orb next (q * p) i = i
 | 0 => by simp [orb]
 | q + 1 => by rw [Nat.add_mul, Nat.one_mul, orb_add, h, orb_per h q]
def cyc (next : List Int) : Bool := (List.range next.length).any fun i => decide ((i : Int) ∈ folL next (nx next i))
def lastI (xs : List Int) : Int := xs.getD (xs.length - 1) 0
theorem acyc_iff {next : List Int} (hC : Cells next) : (∀ i : Nat, i < next.length → folL next i ≠ [] ∧ nx next (lastI (folL next i)) = -1) ↔ cyc next = false := by
 have hlast : ∀ i : Nat, i < next.length → ∃ m, folL next i = orbs next i (m + 1) ∧ nx next (lastI (folL next i)) = orb next (m + 1) i ∧ (orb next (m + 1) i = -1 ∨ ∃ k, k < m + 1 ∧ orb next k i = orb next (m + 1) i) := by
  intro i hi
  obtain ⟨m, h1, h2⟩ := folL_orb hC (c := i) (by omega)
  cases m with
  | zero =>
   rcases h2 with h2 | ⟨k, hk, _⟩
   ·simp only [orb] at h2; omega
   ·omega
  | succ m =>
   refine ⟨m, h1, ?_, h2⟩
   rw [h1]
   have : lastI (orbs next i (m + 1)) = orb next m i := by
    unfold lastI
    rw [orbs_succ]
    simp [List.getD]
   rw [this]
   rfl
 constructor
 ·intro hA
  unfold cyc
  rw [List.any_eq_false]
  intro i hi
  simp only [List.mem_range] at hi
  simp only [decide_eq_true_eq]
  intro hm
  obtain ⟨m, _, h2, _⟩ := hlast i hi
  have h3 := (hA i hi).2
  rw [h2] at h3
  obtain ⟨m', h4, _⟩ := folL_orb hC (nx_in hC (c := i) (by omega))
  rw [h4, orbs_mem] at hm
  obtain ⟨k, _, hk⟩ := hm
  have h5 : orb next (k + 1) i = i := by rw [orb_add]; exact hk
  have h6 := orb_per h5 (m + 1)
  have h7 : orb next ((m + 1) * (k + 1)) i = orb next ((m + 1) * k) (orb next (m + 1) i) := by rw [← orb_add]; congr 1
  rw [h7, h3, orb_stop] at h6
  omega
 ·intro hB i hi
  obtain ⟨m, h1, h2, h3⟩ := hlast i hi
  refine ⟨by rw [h1]; simp [orbs], ?_⟩
  rw [h2]
  rcases h3 with h3 | ⟨k, hk, h3⟩
  ·exact h3
  ·exfalso
   have hS : Seen next (orbs next i (m + 1)) := h1 ▸ folL_seen next i
   have hj := hS.rng (orb next m i) (orbs_mem.2 ⟨m, by omega, rfl⟩)
   have hB' := (List.any_eq_false.1 hB) (orb next m i).toNat (by simp only [List.mem_range]; omega)
   simp only [decide_eq_true_eq] at hB'
   rw [show ((orb next m i).toNat : Int) = orb next m i by omega] at hB'
   apply hB'
   have e1 : nx next (orb next m i) = orb next k i := h3.symm
   have e2 : orb next m i = orb next (m - k) (orb next k i) := by rw [← orb_add]; congr 1; omega
   rw [e1]
   have := folL_mem hC (orb_in hC (c := i) (by omega) k) (m - k) (by rw [← e2]; omega)
   rw [← e2] at this
   exact this
theorem small_fol {next : List Int} (hs : small next.length) (c : Int) : small (folL next c).length := Nat.le_trans (folL_len next c) hs
theorem impl_cyclic (h : THeap) (hs : small h.next.length) (hC : Cells h.next) : impl_Heap_isCyclic h = some (cyc h.next) := by
 unfold impl_Heap_isCyclic
 have hs' := hs
 unfold small at hs'
 have key : Tot (iter (ρ := (Bool) ⊕ (Unit)) (fun s_1 : Int =>
  cond (ltI s_1 (h.next.length : Int))
   ((at? h.next s_1).bind fun e_12 =>
    (impl_Followed h e_12).bind fun y_17 =>
     (zak y_17 s_1).bind fun y_20 =>
      cond y_20
       (some (.inr (.inl true)))
       (some (.inl (addI s_1 1))))
   (some (.inr (.inr ())))) 0) (fun r => Sum.elim (fun r => some r) (fun _ => some false) r = some (cyc h.next)) := by
  refine Tot.loop (fun i s => s = (i : Int) ∧ ∀ j : Nat, j < i → ¬ (j : Int) ∈ folL h.next (nx h.next j)) h.next.length ⟨rfl, fun j hj => absurd hj (Nat.not_lt_zero _)⟩ fun i s hI hi => ?_
  obtain ⟨rfl, hI⟩ := hI
  simp only [ltI, cond_dec, at_nat]
  by_cases hlt : i < h.next.length
  ·have hn : nx h.next i = h.next[i] := by unfold nx; rw [if_neg (by omega)]; simp [List.getD, hlt]
   rw [if_pos (by omega), List.getElem?_eq_getElem hlt, addI_eq (by omega) (by omega)]
   simp only [Option.bind_some, impl_followed h hs, contains_int _ _ (small_fol hs _), ← hn]
   by_cases hm : (i : Int) ∈ folL h.next (nx h.next i)
   ·simp only [hm, decide_true, cond_true]
    refine Tot.ret ?_
    simp only [Sum.elim_inr, Sum.elim_inl, Option.some.injEq]
    exact (List.any_eq_true.2 ⟨i, List.mem_range.2 hlt, by simpa using hm⟩).symm
   ·simp only [hm, decide_false, cond_false]
    refine Tot.ret ⟨hlt, by simp, fun j hj => ?_⟩
    by_cases hji : j = i
    ·subst hji; exact hm
    ·exact hI j (by omega)
  ·rw [if_neg (by omega)]
   refine Tot.ret ?_
   simp only [Sum.elim_inr, Option.some.injEq]
   refine (List.any_eq_false.2 fun j hj => ?_).symm
   have := hI j (by have := List.mem_range.1 hj; omega)
   simpa using this
 obtain ⟨r, h1, h2⟩ := key
 rw [h1]
 exact h2
theorem lastI_at {xs : List Int} (h : xs ≠ []) (hl : small xs.length) : at? xs (subI (xs.length : Int) 1) = some (lastI xs) := by
 have : 0 < xs.length := List.length_pos_iff.2 h
 unfold small at hl
 rw [subI_eq (by omega) (by omega)]
 unfold at? lastI
 rw [if_pos (by omega), show ((xs.length : Int) - 1).toNat = xs.length - 1 by omega]
 rw [List.getElem?_eq_getElem (by omega)]
 simp [List.getD, List.getElem?_eq_getElem (show xs.length - 1 < xs.length by omega)]
theorem lastI_mem {xs : List Int} (h : xs ≠ []) : lastI xs ∈ xs := by
 have : 0 < xs.length := List.length_pos_iff.2 h
 unfold lastI
 simp [List.getD, List.getElem?_eq_getElem (show xs.length - 1 < xs.length by omega)]
theorem spec_acyclic (h : THeap) (hs : small h.next.length) (hC : Cells h.next) : spec_l7Acyclic h = some (!cyc h.next) := by
 unfold spec_l7Acyclic
 have hs' := hs
 unfold small at hs'
 have key : Tot (iter (ρ := (Unit) ⊕ (Unit)) (fun s_1 : Int =>
  cond (ltI s_1 (h.next.length : Int))
   ((spec_Followed h s_1).bind fun y_11 =>
    cond (eqI (y_11.length : Int) 0)
     (some (.inr (.inl ())))
     ((at? y_11 (subI (y_11.length : Int) 1)).bind fun e_15 =>
      (at? h.next e_15).bind fun e_20 =>
       cond (neI e_20 (-1))
        (some (.inr (.inl ())))
        (some (.inl (addI s_1 1)))))
   (some (.inr (.inr ())))) 0) (fun r => Sum.elim (fun _ => some false) (fun _ => some true) r = some (!cyc h.next)) := by
  refine Tot.loop (fun i s => s = (i : Int) ∧ ∀ j : Nat, j < i → folL h.next j ≠ [] ∧ nx h.next (lastI (folL h.next j)) = -1) h.next.length ⟨rfl, fun j hj => absurd hj (Nat.not_lt_zero _)⟩ fun i s hI hi => ?_
  obtain ⟨rfl, hI⟩ := hI
  simp only [ltI, cond_dec]
  by_cases hlt : i < h.next.length
  ·rw [if_pos (by omega), addI_eq (by omega) (by omega)]
   simp only [Option.bind_some, spec_followed h hs, eqI, neI, cond_dec, cond_ndec]
   by_cases he : folL h.next i = []
   ·rw [if_pos (by simp [he])]
    refine Tot.ret ?_
    simp only [Sum.elim_inr, Sum.elim_inl, Option.some.injEq]
    cases hc : cyc h.next with
    | true => rfl
    | false => exact absurd he ((acyc_iff hC).2 hc i hlt).1
   ·have hpos : 0 < (folL h.next i).length := List.length_pos_iff.2 he
    rw [if_neg (by omega), lastI_at he (small_fol hs _)]
    simp only [Option.bind_some]
    have hr := (folL_seen h.next i).rng _ (lastI_mem he)
    have hn : at? h.next (lastI (folL h.next i)) = some (nx h.next (lastI (folL h.next i))) := by
     rw [at_in hr, nx, if_neg (by omega)]
    rw [hn]
    simp only [Option.bind_some]
    by_cases hm : nx h.next (lastI (folL h.next i)) = -1
    ·rw [if_pos hm]
     refine Tot.ret ⟨hlt, by simp, fun j hj => ?_⟩
     by_cases hji : j = i
     ·subst hji; exact ⟨he, hm⟩
     ·exact hI j (by omega)
    ·rw [if_neg hm]
     refine Tot.ret ?_
     simp only [Sum.elim_inr, Sum.elim_inl, Option.some.injEq]
     cases hc : cyc h.next with
     | true => rfl
     | false => exact absurd ((acyc_iff hC).2 hc i hlt).2 hm
  ·rw [if_neg (by omega)]
   refine Tot.ret ?_
   simp only [Sum.elim_inr, Option.some.injEq]
   rw [(acyc_iff hC).1 fun j hj => hI j (by omega)]
   rfl
 obtain ⟨r, h1, h2⟩ := key
 rw [h1]
 exact h2
theorem cells_of {h : THeap} (hc : cellsB h = true) : Cells h.next := by
 simp only [cellsB, Bool.and_eq_true, List.all_eq_true] at hc
 intro x hx
 have := hc.2 x hx
 simp only [inH, decide_eq_true_eq] at this
 omega
theorem ordL_len (next vars : List Int) : (ordL next vars).length ≤ next.length := (ordSeen next vars [] ⟨by simp, by simp⟩).len
def ownPlaces (xs : List Int) : Bool := (List.range xs.length).all fun i => decide (xs.getD i 0 = (i : Int))
theorem own_loop (xs : List Int) (hl : small xs.length) : Tot (iter (ρ := (Unit) ⊕ (Unit)) (fun s_18 : Int =>
                        cond (ltI s_18 (xs.length : Int))
                         ((at? xs s_18).bind fun e_29 =>
                          cond (neI e_29 s_18)
                           (some (.inr (.inl ())))
                           (some (.inl (addI s_18 1))))
                         (some (.inr (.inr ())))) 0) (fun r => r = if ownPlaces xs then .inr () else .inl ()) := by
 unfold small at hl
 refine Tot.loop (fun i s => s = (i : Int) ∧ ∀ j : Nat, j < i → xs.getD j 0 = (j : Int)) xs.length ⟨rfl, fun j hj => absurd hj (Nat.not_lt_zero _)⟩ fun i s hI hi => ?_
 obtain ⟨rfl, hI⟩ := hI
 simp only [ltI, neI, cond_dec, cond_ndec, at_nat]
 by_cases hlt : i < xs.length
 ·have hg : xs.getD i 0 = xs[i] := by simp [List.getD, hlt]
  rw [if_pos (by omega), List.getElem?_eq_getElem hlt, addI_eq (by omega) (by omega)]
  simp only [Option.bind_some]
  by_cases hm : xs[i] = (i : Int)
  ·rw [if_pos hm]
   refine Tot.ret ⟨hlt, by simp, fun j hj => ?_⟩
   by_cases hji : j = i
   ·subst hji; rw [hg]; exact hm
   ·exact hI j (by omega)
  ·rw [if_neg hm]
   refine Tot.ret ?_
   have : ownPlaces xs = false := List.all_eq_false.2 ⟨i, List.mem_range.2 hlt, by simp only [hg, hm]; simp⟩
   simp only [Sum.elim_inr, this]
   rfl
 ·rw [if_neg (by omega)]
  refine Tot.ret ?_
  have : ownPlaces xs = true := List.all_eq_true.2 fun j hj => by
   have := hI j (by have := List.mem_range.1 hj; omega)
   simpa using this
  simp only [Sum.elim_inr, this]
  rfl
def isHeapB (vars : Int) (h : THeap) : Bool := decide (1 ≤ vars ∧ vars ≤ 4) && decide ((h.vars.length : Int) = vars) && decide ((h.next.length : Int) ≤ 6) && cellsB h && !cyc h.next && (ownPlaces (ordL h.next h.vars) && decide ((ordL h.next h.vars).length = h.next.length))
theorem spec_isHeap (vars : Int) (h : THeap) : spec_IsHeap vars h = some (isHeapB vars h) := by
 unfold spec_IsHeap isHeapB
 rw [l1In_eq]
 simp only [Option.bind_some, cond_dec]
 by_cases h1 : 1 ≤ vars ∧ vars ≤ 4
 ·rw [if_pos h1]
  simp only [h1, and_self, decide_true, Bool.true_and, neI, cond_ndec, ltI, cond_dec]
  by_cases h2 : (h.vars.length : Int) = vars
  ·rw [if_pos h2]
   simp only [h2, decide_true, Bool.true_and]
   by_cases h3 : (h.next.length : Int) ≤ 6
   ·rw [if_neg (by omega)]
    have hv : small h.vars.length := by unfold small; omega
    have hs : small h.next.length := by unfold small; omega
    simp only [h3, decide_true, Bool.true_and, l7Cells h hv hs, Option.bind_some]
    cases hc : cellsB h with
    | false => rfl
    | true =>
     simp only [cond_true, Bool.true_and, spec_acyclic h hs (cells_of hc), Option.bind_some]
     cases hy : cyc h.next with
     | true => rfl
     | false =>
      simp only [Bool.not_false, cond_true, Bool.true_and, l7Order h hv hs, Option.bind_some]
      have hol := ordL_len h.next h.vars
      obtain ⟨r, hr1, hr2⟩ := own_loop (ordL h.next h.vars) (by unfold small; omega)
      simp only [neI, ltI, cond_dec, cond_ndec] at hr1
      rw [hr1, hr2]
      cases ho : ownPlaces (ordL h.next h.vars) with
      | false => simp
      | true => simp [eqI]; omega
   ·rw [if_pos (by omega)]
    simp [h3]
  ·rw [if_neg h2]
   simp [h2]
 ·rw [if_neg h1]
  simp [h1]
theorem impl_isHeap (vars : Int) (h : THeap) : impl_IsHeap vars h = some (isHeapB vars h) := by
 unfold impl_IsHeap isHeapB
 rw [within_eq]
 simp only [Option.bind_some, cond_dec]
 by_cases h1 : 1 ≤ vars ∧ vars ≤ 4
 ·rw [if_pos h1]
  simp only [h1, and_self, decide_true, Bool.true_and, neI, cond_ndec, ltI, cond_dec]
  by_cases h2 : (h.vars.length : Int) = vars
  ·rw [if_pos h2]
   simp only [h2, decide_true, Bool.true_and]
   by_cases h3 : (h.next.length : Int) ≤ 6
   ·rw [if_neg (by omega)]
    have hv : small h.vars.length := by unfold small; omega
    have hs : small h.next.length := by unfold small; omega
    simp only [h3, decide_true, Bool.true_and, areCells h (by unfold small; simp only [List.length_append]; omega) hv hs, Option.bind_some]
    cases hc : cellsB h with
    | false => rfl
    | true =>
     simp only [cond_true, Bool.true_and, impl_cyclic h hs (cells_of hc), Option.bind_some]
     cases hy : cyc h.next with
     | true => rfl
     | false =>
      simp only [Bool.not_false, cond_false, Bool.true_and, met h hv hs, Option.bind_some]
      have hol := ordL_len h.next h.vars
      obtain ⟨r, hr1, hr2⟩ := own_loop (ordL h.next h.vars) (by unfold small; omega)
      simp only [neI, ltI, cond_dec, cond_ndec] at hr1
      rw [hr1, hr2]
      cases ho : ownPlaces (ordL h.next h.vars) with
      | false => simp
      | true => simp [eqI]; omega
   ·rw [if_pos (by omega)]
    simp [h3]
  ·rw [if_neg h2]
   simp [h2]
 ·rw [if_neg h1]
  simp [h1]

theorem clone_int (xs : List Int) (h : small xs.length) : slices_Clone_int xs = some xs := by
 unfold slices_Clone_int lib_Clone
 rw [room_small h (by omega)]
 rfl
theorem impl_own (h : THeap) (hv : small h.vars.length) (hs : small h.next.length) : impl_Heap_own h = some h := by
 unfold impl_Heap_own
 rw [clone_int _ hv, Option.bind_some, clone_int _ hs]
 rfl
def tiny (h : THeap) : Prop := h.vars.length ≤ 4 ∧ h.next.length ≤ 6
theorem take_snoc1 {α : Type} {xs : List α} {i : Nat} (h : i < xs.length) : xs.take (i + 1) = xs.take i ++ [xs[i]] := by simp
theorem Tot.flat {α γ σ : Type} (S : List γ → Int → σ) (lo : Int) (xs : List α) (g : α → List γ) {acc : List γ} {step : σ → Option (σ ⊕ List γ)} {s : σ} {Q : List γ → Prop} (hs : s = S acc lo) (hQ : Q (acc ++ xs.flatMap g))
 (h : ∀ (i : Nat) x b, xs[i]? = some x → b.length + (g x).length ≤ acc.length + (xs.flatMap g).length → Tot (step (S b (lo + i))) (· = .inl (S (b ++ g x) (lo + i + 1))))
 (he : ∀ b, Tot (step (S b (lo + xs.length))) (· = .inr b)) : Tot (iter step s) Q := by
 subst hs
 exact Tot.of (loop_flat S lo xs g (fun i x b hx hb => (h i x b hx hb).eq) fun b => (he b).eq) hQ
def t3 (b : Bool) : Int := if b then 2 else 0
def firstR {ρ υ : Type} (o : Option ρ) (u : υ) : ρ ⊕ υ := match o with | some r => .inl r | none => .inr u
theorem Tot.first {ρ υ : Type} {step : Int → Option (Int ⊕ (ρ ⊕ υ))} {Q : ρ ⊕ υ → Prop} (n : Nat) (F : Nat → Option ρ) (u : υ)
 (h : ∀ i : Nat, i < n → Tot (step i) (· = (match F i with | none => .inl ((i : Int) + 1) | some r => .inr (.inl r)))) (he : Tot (step n) (· = .inr (.inr u)))
 (hQ : Q (firstR ((List.range n).findSome? F) u)) : Tot (iter step 0) Q := by
 refine Tot.loop (fun i s => s = (i : Int) ∧ ∀ j, j < i → F j = none) n ⟨rfl, fun j hj => absurd hj (Nat.not_lt_zero _)⟩ fun i s hI hi => ?_
 obtain ⟨rfl, hI⟩ := hI
 by_cases hlt : i < n
 ·refine (h i hlt).mono fun o ho => ?_
  subst ho
  cases hF : F i with
  | none =>
   refine ⟨hlt, rfl, fun j hj => ?_⟩
   by_cases hji : j = i
   ·subst hji; exact hF
   ·exact hI j (by omega)
  | some r =>
   have : (List.range n).findSome? F = some r := by
    rw [List.findSome?_eq_some_iff]
    refine ⟨List.range i, i, (List.range' (i + 1) (n - i - 1)), ?_, hF, fun j hj => hI j (List.mem_range.1 hj)⟩
    rw [List.range_eq_range', List.range_eq_range', ← List.range'_succ, show n - i - 1 + 1 = n - i by omega]
    have := @List.range'_append 0 i (n - i) 1
    simp only [Nat.one_mul, Nat.zero_add] at this
    rw [this]
    congr 1
    omega
   rw [this] at hQ
   exact hQ
 ·have : i = n := by omega
  subst this
  refine he.mono fun o ho => ?_
  subst ho
  have : (List.range i).findSome? F = none := by
   rw [List.findSome?_eq_none_iff]
   exact fun j hj => hI j (List.mem_range.1 hj)
  rw [this] at hQ
  exact hQ
theorem findSome_all {ρ : Type} (p : Nat → Bool) (r : ρ) : ∀ xs : List Nat, xs.findSome? (fun i => if p i then none else some r) = if xs.all p then none else some r
 | [] => rfl
 | x :: xs => by
  rw [List.findSome?_cons, findSome_all p r xs]
  cases h : p x <;> simp [h]
theorem Tot.all {ρ υ : Type} {step : Int → Option (Int ⊕ (ρ ⊕ υ))} {Q : ρ ⊕ υ → Prop} (n : Nat) (p : Nat → Bool) (r : ρ) (u : υ)
 (h : ∀ i : Nat, i < n → Tot (step i) (· = (if p i then .inl ((i : Int) + 1) else .inr (.inl r)))) (he : Tot (step n) (· = .inr (.inr u)))
 (hQ : Q (if (List.range n).all p then .inr u else .inl r)) : Tot (iter step 0) Q := by
 refine Tot.first n (fun i => if p i then none else some r) u (fun i hi => ?_) he ?_
 ·refine (h i hi).mono fun o ho => ?_
  rw [ho]
  cases p i <;> rfl
 ·rw [findSome_all]
  cases h : (List.range n).all p <;> simpa [h, firstR] using hQ

theorem getD_at {α : Type} {xs : List α} {i : Nat} (h : i < xs.length) (d : α) : at? xs (i : Int) = some (xs.getD i d) := by
 rw [at_nat, List.getElem?_eq_getElem h]; simp [List.getD, h]
theorem at_in' {α : Type} {xs : List α} {c : Int} (h : 0 ≤ c ∧ c < (xs.length : Int)) (d : α) : at? xs c = some (xs.getD c.toNat d) := by
 unfold at?
 rw [if_pos h.1]
 have : c.toNat < xs.length := by omega
 simp [List.getD, List.getElem?_eq_getElem this]
end Go.Ev

