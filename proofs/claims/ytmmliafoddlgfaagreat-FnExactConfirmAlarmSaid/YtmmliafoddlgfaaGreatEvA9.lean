import Derived.Test.YtmmliafoddlgfaaGreatEvA6
import Derived.Test.YtmmliafoddlgfaaGreatEvA7
import Derived.Test.YtmmliafoddlgfaaGreatEvA8
set_option linter.unusedSimpArgs false
set_option linter.unusedVariables false
set_option linter.unnecessarySimpa false
noncomputable section
namespace Go.Ev
def impl_Heap_without (h:THeap) (c:Int):Option THeap:=withoutF h c

def slices_Clone_int (s:(List Int)):Option (List Int):=lib_Clone 8 s

def slices_Concat_int (s:(List (List Int))):Option (List Int):=lib_Concat 8 s

def laws_szStringS (a_:(List ByteArray)) (left:Int):Option (Int) :=
 cond (ltI (subI left (a_.length:Int)) 0)
 (some (-1))
 ((iter (ρ:=(Int) ⊕ (Int)) (fun s_2:Int × Int =>
 cond (ltI s_2.2 (a_.length:Int))
 ((at? a_ s_2.2).bind fun e_10 =>
 cond (ltI (subI s_2.1 (e_10.size:Int)) 0)
 (some (.inr (.inl (-1))))
 (some (.inl (subI s_2.1 (e_10.size:Int),addI s_2.2 1))))
 (some (.inr (.inr s_2.1)))) (subI left (a_.length:Int),0)).bind fun r_16 =>
 Sum.elim (fun r_16 =>
 some r_16)
 (fun r_16 =>
 some r_16) r_16)

def laws_szStmt (a_:TStmt) (left:Int):Option (Int) :=
 cond (ltI (subI left (a_.a.size:Int)) 0)
 (some (-1))
 (cond (ltI (subI (subI left (a_.a.size:Int)) (a_.b.size:Int)) 0)
 (some (-1))
 (some (subI (subI left (a_.a.size:Int)) (a_.b.size:Int))))

def laws_szEdge (a_:TEdge) (left:Int):Option (Int) :=
 (laws_szStmt a_.stmt left).bind fun y_1 =>
 cond (ltI y_1 0)
 (some (-1))
 (some y_1)

def laws_szEdgeS (a_:(List TEdge)) (left:Int):Option (Int) :=
 cond (ltI (subI left (a_.length:Int)) 0)
 (some (-1))
 ((iter (ρ:=(Int) ⊕ (Int)) (fun s_2:Int × Int =>
 cond (ltI s_2.2 (a_.length:Int))
 ((at? a_ s_2.2).bind fun e_10 =>
 (laws_szEdge e_10 s_2.1).bind fun y_15 =>
 cond (ltI y_15 0)
 (some (.inr (.inl (-1))))
 (some (.inl (y_15,addI s_2.2 1))))
 (some (.inr (.inr s_2.1)))) (subI left (a_.length:Int),0)).bind fun r_19 =>
 Sum.elim (fun r_19 =>
 some r_19)
 (fun r_19 =>
 some r_19) r_19)

def laws_szProgram (a_:TProgram) (left:Int):Option (Int) :=
 (laws_szStringS a_.vars left).bind fun y_1 =>
 cond (ltI y_1 0)
 (some (-1))
 ((laws_szEdgeS a_.edges y_1).bind fun y_5 =>
 cond (ltI y_5 0)
 (some (-1))
 (some y_5))

def laws_szIntS (a_:(List Int)) (left:Int):Option (Int) :=
 cond (ltI (subI left (a_.length:Int)) 0)
 (some (-1))
 (some (subI left (a_.length:Int)))

def laws_szHeap (a_:THeap) (left:Int):Option (Int) :=
 (laws_szIntS a_.vars left).bind fun y_1 =>
 cond (ltI y_1 0)
 (some (-1))
 ((laws_szIntS a_.next y_1).bind fun y_5 =>
 cond (ltI y_5 0)
 (some (-1))
 (some y_5))

def laws_szHeapS (a_:(List THeap)) (left:Int):Option (Int) :=
 cond (ltI (subI left (a_.length:Int)) 0)
 (some (-1))
 ((iter (ρ:=(Int) ⊕ (Int)) (fun s_2:Int × Int =>
 cond (ltI s_2.2 (a_.length:Int))
 ((at? a_ s_2.2).bind fun e_10 =>
 (laws_szHeap e_10 s_2.1).bind fun y_15 =>
 cond (ltI y_15 0)
 (some (.inr (.inl (-1))))
 (some (.inl (y_15,addI s_2.2 1))))
 (some (.inr (.inr s_2.1)))) (subI left (a_.length:Int),0)).bind fun r_19 =>
 Sum.elim (fun r_19 =>
 some r_19)
 (fun r_19 =>
 some r_19) r_19)

def laws_toStringS (a_:(List ByteArray)):Option ((List ByteArray)) :=
 (roomI (a_.length:Int) 16).bind fun _ =>
 (iter (ρ:=(List ByteArray)) (fun s_5:Int × (List ByteArray) =>
 cond (ltI s_5.1 (a_.length:Int))
 ((at? a_ s_5.1).bind fun e_13 =>
 (at? s_5.2 s_5.1).bind fun e_18 =>
 some (.inl (addI s_5.1 1,s_5.2.set s_5.1.toNat e_13)))
 (some (.inr s_5.2))) (0,List.replicate (a_.length:Int).toNat (ByteArray.empty:ByteArray))).bind fun r_24 =>
 some r_24

def laws_toStmt (a_:TStmt):Option (TStmt) :=
 some a_

def laws_toEdge (a_:TEdge):Option (TEdge) :=
 (laws_toStmt a_.stmt).bind fun y_1 =>
 some (⟨a_.from_,a_.to_,y_1⟩:TEdge)

def laws_toEdgeS (a_:(List TEdge)):Option ((List TEdge)) :=
 (roomI (a_.length:Int) 56).bind fun _ =>
 (iter (ρ:=(List TEdge)) (fun s_5:Int × (List TEdge) =>
 cond (ltI s_5.1 (a_.length:Int))
 ((at? a_ s_5.1).bind fun e_13 =>
 (laws_toEdge e_13).bind fun y_18 =>
 (at? s_5.2 s_5.1).bind fun e_21 =>
 some (.inl (addI s_5.1 1,s_5.2.set s_5.1.toNat y_18)))
 (some (.inr s_5.2))) (0,List.replicate (a_.length:Int).toNat ((⟨0,0,(⟨0,ByteArray.empty,ByteArray.empty⟩:TStmt)⟩:TEdge):TEdge))).bind fun r_27 =>
 some r_27

def laws_toProgram (a_:TProgram):Option (TProgram) :=
 (laws_toStringS a_.vars).bind fun y_1 =>
 (laws_toEdgeS a_.edges).bind fun y_4 =>
 some (⟨y_1,a_.points,y_4⟩:TProgram)

def laws_toIntS (a_:(List Int)):Option ((List Int)) :=
 (roomI (a_.length:Int) 8).bind fun _ =>
 (iter (ρ:=(List Int)) (fun s_5:Int × (List Int) =>
 cond (ltI s_5.1 (a_.length:Int))
 ((at? a_ s_5.1).bind fun e_13 =>
 (at? s_5.2 s_5.1).bind fun e_18 =>
 some (.inl (addI s_5.1 1,s_5.2.set s_5.1.toNat e_13)))
 (some (.inr s_5.2))) (0,List.replicate (a_.length:Int).toNat (0:Int))).bind fun r_24 =>
 some r_24

def laws_toHeap (a_:THeap):Option (THeap) :=
 (laws_toIntS a_.vars).bind fun y_1 =>
 (laws_toIntS a_.next).bind fun y_4 =>
 some (⟨y_1,y_4⟩:THeap)

def laws_toHeapS (a_:(List THeap)):Option ((List THeap)) :=
 (roomI (a_.length:Int) 48).bind fun _ =>
 (iter (ρ:=(List THeap)) (fun s_5:Int × (List THeap) =>
 cond (ltI s_5.1 (a_.length:Int))
 ((at? a_ s_5.1).bind fun e_13 =>
 (laws_toHeap e_13).bind fun y_18 =>
 (at? s_5.2 s_5.1).bind fun e_21 =>
 some (.inl (addI s_5.1 1,s_5.2.set s_5.1.toNat y_18)))
 (some (.inr s_5.2))) (0,List.replicate (a_.length:Int).toNat ((⟨[],[]⟩:THeap):THeap))).bind fun r_27 =>
 some r_27

def laws_toAlarm (a_:TAlarm):Option (TAlarm) :=
 some a_

def spec_l1In (x_:Int) (lo:Int) (hi:Int):Option (Bool) :=
 cond (leI lo x_)
 (some (leI x_ hi))
 (some false)

def spec_NamesOf (kind:Int):Option (Int) :=
 cond (eqI kind 1)
 (some 0)
 (cond (eqI kind 2)
 (some 1)
 (cond (eqI kind 3)
 (some 1)
 (cond (eqI kind 6)
 (some 1)
 (cond (eqI kind 8)
 (some 1)
 (cond (eqI kind 9)
 (some 1)
 (cond (eqI kind 10)
 (some 1)
 (cond (eqI kind 4)
 (some 2)
 (cond (eqI kind 5)
 (some 2)
 (cond (eqI kind 7)
 (some 2)
 (cond (eqI kind 11)
 (some 2)
 (cond (eqI kind 12)
 (some 2)
 (some (-1)))))))))))))

def spec_IsName (s:ByteArray):Option (Bool) :=
 (iter (ρ:=(Unit) ⊕ (Unit)) (fun s_1:Int =>
 cond (ltI s_1 (s.size:Int))
 ((chr? s s_1).bind fun e_9 =>
 cond (ltI e_9 97)
 (some (.inr (.inl ())))
 ((chr? s s_1).bind fun _ =>
 cond (ltI 122 e_9)
 (some (.inr (.inl ())))
 (some (.inl (addI s_1 1)))))
 (some (.inr (.inr ())))) 0).bind fun r_15 =>
 Sum.elim (fun _r_15 =>
 some false)
 (fun _r_15 =>
 (spec_l1In (s.size:Int) 1 2).bind fun y_23 =>
 some y_23) r_15

def spec_IndexOf (list:(List ByteArray)) (s:ByteArray):Option (Int) :=
 (iter (ρ:=(Int) ⊕ (Unit)) (fun s_1:Int =>
 cond (ltI s_1 (list.length:Int))
 ((at? list s_1).bind fun e_9 =>
 cond (eqS e_9 s)
 (some (.inr (.inl s_1)))
 (some (.inl (addI s_1 1))))
 (some (.inr (.inr ())))) 0).bind fun r_15 =>
 Sum.elim (fun r_15 =>
 some r_15)
 (fun _r_15 =>
 some (-1)) r_15

def spec_AreVars (list:(List ByteArray)):Option (Bool) :=
 (iter (ρ:=(Unit) ⊕ (Unit)) (fun s_1:Int =>
 cond (ltI s_1 (list.length:Int))
 ((at? list s_1).bind fun e_9 =>
 (spec_IsName e_9).bind fun y_14 =>
 cond y_14
 ((at? list s_1).bind fun _ =>
 (spec_IndexOf list e_9).bind fun y_23 =>
 cond (neI y_23 s_1)
 (some (.inr (.inl ())))
 (some (.inl (addI s_1 1))))
 (some (.inr (.inl ()))))
 (some (.inr (.inr ())))) 0).bind fun r_27 =>
 Sum.elim (fun _r_27 =>
 some false)
 (fun _r_27 =>
 (spec_l1In (list.length:Int) 1 4).bind fun y_35 =>
 some y_35) r_27

def spec_IsStmt (vars:(List ByteArray)) (s:TStmt):Option (Bool) :=
 (spec_NamesOf s.kind).bind fun y_1 =>
 (spec_AreVars vars).bind fun y_4 =>
 cond y_4
 (cond (ltI y_1 0)
 (some false)
 (cond (ltI y_1 1)
 (cond (neS s.a (⟨#[]⟩:ByteArray))
 (some false)
 (cond (ltI y_1 2)
 (cond (neS s.b (⟨#[]⟩:ByteArray))
 (some false)
 (some true))
 ((spec_IndexOf vars s.b).bind fun y_13 =>
 some (leI 0 y_13))))
 (cond (ltI y_1 2)
 (cond (neS s.b (⟨#[]⟩:ByteArray))
 (some false)
 ((spec_IndexOf vars s.a).bind fun y_18 =>
 cond (leI 0 y_18)
 (some true)
 (some false)))
 ((spec_IndexOf vars s.a).bind fun y_22 =>
 cond (leI 0 y_22)
 ((spec_IndexOf vars s.b).bind fun y_26 =>
 some (leI 0 y_26))
 (some false)))))
 (some false)

def spec_IsProgram (p_:TProgram):Option (Bool) :=
 (iter (ρ:=(Unit) ⊕ (Unit)) (fun s_1:Int =>
 cond (ltI s_1 (p_.edges.length:Int))
 ((at? p_.edges s_1).bind fun e_9 =>
 (spec_l1In e_9.from_ 0 (subI p_.points 1)).bind fun y_15 =>
 cond y_15
 ((spec_l1In e_9.to_ 0 (subI p_.points 1)).bind fun y_19 =>
 cond y_19
 ((spec_IsStmt p_.vars e_9.stmt).bind fun y_23 =>
 cond y_23
 (some (.inl (addI s_1 1)))
 (some (.inr (.inl ()))))
 (some (.inr (.inl ()))))
 (some (.inr (.inl ()))))
 (some (.inr (.inr ())))) 0).bind fun r_27 =>
 Sum.elim (fun _r_27 =>
 some false)
 (fun _r_27 =>
 (spec_AreVars p_.vars).bind fun y_35 =>
 cond y_35
 ((spec_l1In p_.points 1 12).bind fun y_39 =>
 cond y_39
 (some (leI (p_.edges.length:Int) 24))
 (some false))
 (some false)) r_27

def spec_l7Cells (h_:THeap):Option (Bool) :=
 (iter (ρ:=(Unit) ⊕ (Unit)) (fun s_1:Int =>
 cond (ltI s_1 (h_.vars.length:Int))
 ((at? h_.vars s_1).bind fun e_9 =>
 (spec_l1In e_9 (-1) (subI (h_.next.length:Int) 1)).bind fun y_14 =>
 cond y_14
 (some (.inl (addI s_1 1)))
 (some (.inr (.inl ()))))
 (some (.inr (.inr ())))) 0).bind fun r_18 =>
 Sum.elim (fun _r_18 =>
 some false)
 (fun _r_18 =>
 (iter (ρ:=(Bool) ⊕ (Unit)) (fun s_26:Int =>
 cond (ltI s_26 (h_.next.length:Int))
 ((at? h_.next s_26).bind fun e_34 =>
 (spec_l1In e_34 (-1) (subI (h_.next.length:Int) 1)).bind fun y_39 =>
 cond y_39
 (some (.inl (addI s_26 1)))
 (some (.inr (.inl false))))
 (some (.inr (.inr ())))) 0).bind fun r_43 =>
 Sum.elim (fun r_43 =>
 some r_43)
 (fun _r_43 =>
 some true) r_43) r_18

def spec_Positions (list:(List Int)) (n_:Int):Option ((List Int)) :=
 (iter (ρ:=(List Int)) (fun s_1:(List Int) × Int =>
 cond (ltI s_1.2 (list.length:Int))
 ((at? list s_1.2).bind fun e_9 =>
 cond (eqI e_9 n_)
 ((room (s_1.1.length + [s_1.2].length) 8).bind fun _ =>
 some (.inl (s_1.1 ++ [s_1.2],addI s_1.2 1)))
 (some (.inl (s_1.1,addI s_1.2 1))))
 (some (.inr s_1.1))) ([],0)).bind fun r_17 =>
 some r_17

def spec_l7Has (list:(List Int)) (n_:Int):Option (Bool) :=
 (spec_Positions list n_).bind fun y_1 =>
 some (ltI 0 (y_1.length:Int))

def spec_Followed (h_:THeap) (cell:Int):Option ((List Int)) :=
 (iter (ρ:=((List Int)) ⊕ (Unit)) (fun s_1:Int × (List Int) =>
 cond (neI s_1.1 (-1))
 ((spec_l7Has s_1.2 s_1.1).bind fun y_9 =>
 cond y_9
 (some (.inr (.inl s_1.2)))
 ((spec_l1In s_1.1 0 (subI (h_.next.length:Int) 1)).bind fun y_13 =>
 cond y_13
 ((room (s_1.2.length + [s_1.1].length) 8).bind fun _ =>
 (at? h_.next s_1.1).bind fun e_19 =>
 some (.inl (e_19,s_1.2 ++ [s_1.1])))
 (some (.inr (.inr ())))))
 (some (.inr (.inl s_1.2)))) (cell,[])).bind fun r_24 =>
 Sum.elim (fun r_24 =>
 some r_24)
 (fun _r_24 =>
 some []) r_24

def spec_l7Acyclic (h_:THeap):Option (Bool) :=
 (iter (ρ:=(Unit) ⊕ (Unit)) (fun s_1:Int =>
 cond (ltI s_1 (h_.next.length:Int))
 ((spec_Followed h_ s_1).bind fun y_9 =>
 cond (eqI (y_9.length:Int) 0)
 (some (.inr (.inl ())))
 ((at? y_9 (subI (y_9.length:Int) 1)).bind fun e_13 =>
 (at? h_.next e_13).bind fun e_18 =>
 cond (neI e_18 (-1))
 (some (.inr (.inl ())))
 (some (.inl (addI s_1 1)))))
 (some (.inr (.inr ())))) 0).bind fun r_24 =>
 Sum.elim (fun _r_24 =>
 some false)
 (fun _r_24 =>
 some true) r_24

def spec_l7Order (h_:THeap):Option ((List Int)) :=
 (iter (ρ:=(List Int)) (fun s_1:(List Int) × Int =>
 cond (ltI s_1.2 (h_.vars.length:Int))
 ((at? h_.vars s_1.2).bind fun e_9 =>
 (spec_Followed h_ e_9).bind fun y_14 =>
 (iter (ρ:=(List Int)) (fun s_17:Int × (List Int) =>
 cond (ltI s_17.1 (y_14.length:Int))
 ((at? y_14 s_17.1).bind fun e_25 =>
 (spec_l7Has s_17.2 e_25).bind fun y_30 =>
 cond y_30
 (some (.inl (addI s_17.1 1,s_17.2)))
 ((at? y_14 s_17.1).bind fun _ =>
 (room (s_17.2.length + [e_25].length) 8).bind fun _ =>
 some (.inl (addI s_17.1 1,s_17.2 ++ [e_25]))))
 (some (.inr s_17.2))) (0,s_1.1)).bind fun r_41 =>
 some (.inl (r_41,addI s_1.2 1)))
 (some (.inr s_1.1))) ([],0)).bind fun r_46 =>
 some r_46

def spec_IsHeap (vars:Int) (h_:THeap):Option (Bool) :=
 (spec_l1In vars 1 4).bind fun y_1 =>
 cond y_1
 (cond (neI (h_.vars.length:Int) vars)
 (some false)
 (cond (ltI 6 (h_.next.length:Int))
 (some false)
 ((spec_l7Cells h_).bind fun y_7 =>
 cond y_7
 ((spec_l7Acyclic h_).bind fun y_11 =>
 cond y_11
 ((spec_l7Order h_).bind fun y_15 =>
 (iter (ρ:=(Unit) ⊕ (Unit)) (fun s_18:Int =>
 cond (ltI s_18 (y_15.length:Int))
 ((at? y_15 s_18).bind fun e_26 =>
 cond (neI e_26 s_18)
 (some (.inr (.inl ())))
 (some (.inl (addI s_18 1))))
 (some (.inr (.inr ())))) 0).bind fun r_32 =>
 Sum.elim (fun _r_32 =>
 some false)
 (fun _r_32 =>
 some (eqI (y_15.length:Int) (h_.next.length:Int))) r_32)
 (some false))
 (some false))))
 (some false)

def spec_l7Same (a_:(List Int)) (b_:(List Int)):Option (Bool) :=
 cond (neI (a_.length:Int) (b_.length:Int))
 (some false)
 ((iter (ρ:=(Unit) ⊕ (Unit)) (fun s_2:Int =>
 cond (ltI s_2 (a_.length:Int))
 ((at? a_ s_2).bind fun e_10 =>
 (at? b_ s_2).bind fun e_15 =>
 cond (neI e_10 e_15)
 (some (.inr (.inl ())))
 (some (.inl (addI s_2 1))))
 (some (.inr (.inr ())))) 0).bind fun r_21 =>
 Sum.elim (fun _r_21 =>
 some false)
 (fun _r_21 =>
 some true) r_21)

def spec_EqualHeap (a_:THeap) (b_:THeap):Option (Bool) :=
 (spec_l7Same a_.vars b_.vars).bind fun y_1 =>
 cond y_1
 ((spec_l7Same a_.next b_.next).bind fun y_5 =>
 some y_5)
 (some false)

def spec_EqualState (a_:TState) (b_:TState):Option (Bool) :=
 cond (eqI a_.point b_.point)
 ((spec_EqualHeap a_.heap b_.heap).bind fun y_2 =>
 some y_2)
 (some false)

def spec_l7Copy (h_:THeap):Option (THeap) :=
 (room (([]:List Int).length+h_.vars.length) 8).bind fun _ =>
 (room (([]:List Int).length+h_.next.length) 8).bind fun _ =>
 some h_

def spec_l9Put (list:(List TState)) (s:TState):Option ((List TState)) :=
 (iter (ρ:=((List TState)) ⊕ (Unit)) (fun s_1:Int =>
 cond (ltI s_1 (list.length:Int))
 ((at? list s_1).bind fun e_9 =>
 (spec_EqualState e_9 s).bind fun y_14 =>
 cond y_14
 (some (.inr (.inl list)))
 (some (.inl (addI s_1 1))))
 (some (.inr (.inr ())))) 0).bind fun r_18 =>
 Sum.elim (fun r_18 =>
 some r_18)
 (fun _r_18 =>
 (spec_l7Copy s.heap).bind fun y_26 =>
 (room (list.length + [(⟨s.point,y_26⟩:TState)].length) 56).bind fun _ =>
 some (list ++ [(⟨s.point,y_26⟩:TState)])) r_18

def spec_EdgesFrom (p_:TProgram) (point:Int):Option ((List Int)) :=
 (iter (ρ:=(List Int)) (fun s_1:(List Int) × Int =>
 cond (ltI s_1.2 (p_.edges.length:Int))
 ((at? p_.edges s_1.2).bind fun e_9 =>
 cond (eqI e_9.from_ point)
 ((room (s_1.1.length + [s_1.2].length) 8).bind fun _ =>
 some (.inl (s_1.1 ++ [s_1.2],addI s_1.2 1)))
 (some (.inl (s_1.1,addI s_1.2 1))))
 (some (.inr s_1.1))) ([],0)).bind fun r_17 =>
 some r_17

def spec_l1Max (a_:Int) (b_:Int):Option (Int) :=
 cond (ltI b_ a_)
 (some a_)
 (some b_)

def spec_IsTest (s:TStmt):Option (Bool) :=
 (spec_l1In s.kind 9 12).bind fun y_1 =>
 some y_1

def spec_l8Test (kind:Int) (a_:Int) (b_:Int):Option (Bool) :=
 cond (eqI kind 9)
 (some (eqI a_ (-1)))
 (cond (eqI kind 10)
 (some (neI a_ (-1)))
 (cond (eqI kind 11)
 (some (eqI a_ b_))
 (some (neI a_ b_))))

def spec_l8Null (s:TStmt) (h_:THeap) (a_:Int) (b_:Int):Option (Bool) :=
 cond (eqI s.kind 5)
 ((at? h_.vars b_).bind fun e_2 =>
 some (eqI e_2 (-1)))
 (cond (eqI s.kind 6)
 ((at? h_.vars a_).bind fun e_8 =>
 some (eqI e_8 (-1)))
 (cond (eqI s.kind 7)
 ((at? h_.vars a_).bind fun e_14 =>
 some (eqI e_14 (-1)))
 (cond (eqI s.kind 8)
 ((at? h_.vars a_).bind fun e_20 =>
 some (eqI e_20 (-1)))
 (some false))))

def spec_l1Bit (on:Bool):Option (Int) :=
 cond on
 (some 1)
 (some 0)

def spec_l8Without (h_:THeap) (cell:Int):Option (THeap) :=
 (iter (ρ:=(List Int)) (fun s_1:Int × (List Int) =>
 cond (ltI s_1.1 (h_.vars.length:Int))
 ((at? h_.vars s_1.1).bind fun e_9 =>
 (at? h_.vars s_1.1).bind fun _ =>
 (spec_l1Bit (ltI cell e_9)).bind fun y_19 =>
 (room (s_1.2.length + [subI e_9 y_19].length) 8).bind fun _ =>
 some (.inl (addI s_1.1 1,s_1.2 ++ [subI e_9 y_19])))
 (some (.inr s_1.2))) (0,[])).bind fun r_24 =>
 (iter (ρ:=(List Int)) (fun s_29:Int × (List Int) =>
 cond (ltI s_29.1 (h_.next.length:Int))
 (cond (neI s_29.1 cell)
 ((at? h_.next s_29.1).bind fun e_38 =>
 (at? h_.next s_29.1).bind fun _ =>
 (spec_l1Bit (ltI cell e_38)).bind fun y_48 =>
 (room (s_29.2.length + [subI e_38 y_48].length) 8).bind fun _ =>
 some (.inl (addI s_29.1 1,s_29.2 ++ [subI e_38 y_48])))
 (some (.inl (addI s_29.1 1,s_29.2))))
 (some (.inr s_29.2))) (0,[])).bind fun r_53 =>
 some (⟨r_24,r_53⟩:THeap)

def spec_l8Free (h_:THeap) (a_:Int):Option (THeap × Int) :=
 (at? h_.vars a_).bind fun e_1 =>
 (spec_Positions h_.vars e_1).bind fun y_6 =>
 cond (ltI 1 (y_6.length:Int))
 (some ((⟨[],[]⟩:THeap),5))
 ((spec_l7Has h_.next e_1).bind fun y_10 =>
 cond y_10
 (some ((⟨[],[]⟩:THeap),5))
 ((at? h_.vars a_).bind fun _ =>
 (spec_l8Without (⟨h_.vars.set a_.toNat (-1),h_.next⟩:THeap) e_1).bind fun y_20 =>
 some (y_20,0)))

def spec_l8Do (s:TStmt) (h_:THeap) (a_:Int) (b_:Int):Option (THeap × Int) :=
 cond (eqI s.kind 2)
 ((at? h_.vars a_).bind fun e_2 =>
 some ((⟨h_.vars.set a_.toNat (-1),h_.next⟩:THeap),0))
 (cond (eqI s.kind 3)
 ((at? h_.vars a_).bind fun e_9 =>
 (room (h_.next.length + [(-1)].length) 8).bind fun _ =>
 some ((⟨h_.vars.set a_.toNat (h_.next.length:Int),h_.next ++ [(-1)]⟩:THeap),0))
 (cond (eqI s.kind 4)
 ((at? h_.vars b_).bind fun e_18 =>
 (at? h_.vars a_).bind fun e_23 =>
 some ((⟨h_.vars.set a_.toNat e_18,h_.next⟩:THeap),0))
 (cond (eqI s.kind 5)
 ((at? h_.vars b_).bind fun e_30 =>
 (at? h_.next e_30).bind fun e_35 =>
 (at? h_.vars a_).bind fun e_40 =>
 some ((⟨h_.vars.set a_.toNat e_35,h_.next⟩:THeap),0))
 (cond (eqI s.kind 6)
 ((at? h_.vars a_).bind fun e_47 =>
 (at? h_.next e_47).bind fun e_52 =>
 some ((⟨h_.vars,h_.next.set e_47.toNat (-1)⟩:THeap),0))
 (cond (eqI s.kind 7)
 ((at? h_.vars b_).bind fun e_59 =>
 (spec_Followed h_ e_59).bind fun y_64 =>
 (at? h_.vars a_).bind fun e_67 =>
 (spec_l7Has y_64 e_67).bind fun y_72 =>
 cond y_72
 (some ((⟨[],[]⟩:THeap),3))
 ((at? h_.vars a_).bind fun _ =>
 (at? h_.vars b_).bind fun _ =>
 (at? h_.next e_67).bind fun e_86 =>
 some ((⟨h_.vars,h_.next.set e_67.toNat e_59⟩:THeap),0)))
 (cond (eqI s.kind 8)
 ((spec_l8Free h_ a_).bind fun y_95 =>
 some (y_95.1,y_95.2))
 (some (h_,0))))))))

def spec_HasLeak (h_:THeap):Option (Bool) :=
 (spec_l7Order h_).bind fun y_1 =>
 some (ltI (y_1.length:Int) (h_.next.length:Int))

def spec_l7New (order:(List Int)) (cell:Int):Option (Int) :=
 (spec_Positions order cell).bind fun y_1 =>
 cond (eqI (y_1.length:Int) 0)
 (some (-1))
 ((at? y_1 0).bind fun e_5 =>
 some e_5)

def spec_CanonHeap (h_:THeap):Option (THeap) :=
 (spec_l7Cells h_).bind fun y_1 =>
 cond y_1
 ((spec_l7Order h_).bind fun y_5 =>
 (iter (ρ:=(List Int)) (fun s_8:Int × (List Int) =>
 cond (ltI s_8.1 (h_.vars.length:Int))
 ((at? h_.vars s_8.1).bind fun e_16 =>
 (spec_l7New y_5 e_16).bind fun y_21 =>
 (room (s_8.2.length + [y_21].length) 8).bind fun _ =>
 some (.inl (addI s_8.1 1,s_8.2 ++ [y_21])))
 (some (.inr s_8.2))) (0,[])).bind fun r_26 =>
 (iter (ρ:=(List Int)) (fun s_31:Int × (List Int) =>
 cond (ltI s_31.1 (y_5.length:Int))
 ((at? y_5 s_31.1).bind fun e_39 =>
 (at? h_.next e_39).bind fun e_44 =>
 (spec_l7New y_5 e_44).bind fun y_49 =>
 (room (s_31.2.length + [y_49].length) 8).bind fun _ =>
 some (.inl (addI s_31.1 1,s_31.2 ++ [y_49])))
 (some (.inr s_31.2))) (0,[])).bind fun r_54 =>
 some (⟨r_26,r_54⟩:THeap))
 (some (⟨[],[]⟩:THeap))

def spec_Exec (vars:(List ByteArray)) (s:TStmt) (h_:THeap):Option (THeap × Int) :=
 (show Option (Bool) from
 (spec_IsStmt vars s).bind fun y_6 =>
 cond y_6
 ((spec_IsHeap (vars.length:Int) h_).bind fun y_10 =>
 some (notB y_10))
 (some true)).bind fun r_1 =>
 cond r_1
 (some ((⟨[],[]⟩:THeap),7))
 ((spec_IndexOf vars s.a).bind fun y_14 =>
 (spec_l1Max 0 y_14).bind fun y_17 =>
 (spec_IndexOf vars s.b).bind fun y_20 =>
 (spec_l1Max 0 y_20).bind fun y_23 =>
 (show Option (Bool) from
 (spec_IsTest s).bind fun y_31 =>
 cond y_31
 ((at? h_.vars y_17).bind fun e_35 =>
 (at? h_.vars y_23).bind fun e_40 =>
 (spec_l8Test s.kind e_35 e_40).bind fun y_45 =>
 some (notB y_45))
 (some false)).bind fun r_26 =>
 cond r_26
 (some ((⟨[],[]⟩:THeap),1))
 ((spec_l8Null s h_ y_17 y_23).bind fun y_49 =>
 cond y_49
 (some ((⟨[],[]⟩:THeap),2))
 ((show Option (Bool) from
 cond (eqI s.kind 3)
 (some (eqI (h_.next.length:Int) 6))
 (some false)).bind fun r_53 =>
 cond r_53
 (some ((⟨[],[]⟩:THeap),6))
 ((spec_l7Copy h_).bind fun y_60 =>
 (spec_l8Do s y_60 y_17 y_23).bind fun y_65 =>
 cond (neI y_65.2 0)
 (some ((⟨[],[]⟩:THeap),y_65.2))
 ((spec_HasLeak y_65.1).bind fun y_70 =>
 cond y_70
 (some ((⟨[],[]⟩:THeap),4))
 ((spec_CanonHeap y_65.1).bind fun y_74 =>
 some (y_74,0)))))))

def spec_StatesFrom (p_:TProgram) (start:(List THeap)):Option ((List TState) × Bool) :=
 (spec_IsProgram p_).bind fun y_1 =>
 cond y_1
 ((iter (ρ:=(Unit) ⊕ ((List TState))) (fun s_5:(List TState) × Int =>
 cond (ltI s_5.2 (start.length:Int))
 ((at? start s_5.2).bind fun e_13 =>
 (spec_IsHeap (p_.vars.length:Int) e_13).bind fun y_18 =>
 cond y_18
 ((at? start s_5.2).bind fun _ =>
 (spec_l9Put s_5.1 (⟨0,e_13⟩:TState)).bind fun y_29 =>
 some (.inl (y_29,addI s_5.2 1)))
 (some (.inr (.inl ()))))
 (some (.inr (.inr s_5.1)))) ([],0)).bind fun r_32 =>
 Sum.elim (fun _r_32 =>
 some ([],false))
 (fun r_32 =>
 (iter (ρ:=(List TState)) (fun s_40:(List TState) × Int =>
 cond (ltI s_40.2 (s_40.1.length:Int))
 (cond (leI (s_40.1.length:Int) 200)
 ((at? s_40.1 s_40.2).bind fun e_49 =>
 (spec_EdgesFrom p_ e_49.point).bind fun y_54 =>
 (iter (ρ:=(List TState)) (fun s_57:(List TState) × Int =>
 cond (ltI s_57.2 (y_54.length:Int))
 ((at? y_54 s_57.2).bind fun e_65 =>
 (at? p_.edges e_65).bind fun e_70 =>
 (at? s_57.1 s_40.2).bind fun e_76 =>
 (spec_Exec p_.vars e_70.stmt e_76.heap).bind fun y_81 =>
 cond (eqI y_81.2 0)
 ((spec_l9Put s_57.1 (⟨e_70.to_,y_81.1⟩:TState)).bind fun y_88 =>
 some (.inl (y_88,addI s_57.2 1)))
 (some (.inl (s_57.1,addI s_57.2 1))))
 (some (.inr s_57.1))) (s_40.1,0)).bind fun r_91 =>
 some (.inl (r_91,addI s_40.2 1)))
 (some (.inr s_40.1)))
 (some (.inr s_40.1))) (r_32,0)).bind fun r_96 =>
 cond (ltI 200 (r_96.length:Int))
 (some ([],false))
 (some (r_96,true))) r_32)
 (some ([],false))

def spec_IsError (code:Int):Option (Bool) :=
 (spec_l1In code 2 5).bind fun y_1 =>
 some y_1

def spec_l27Start (start:(List THeap)):Option (Int) :=
 (iter (ρ:=(List TState)) (fun s_1:(List TState) × Int =>
 cond (ltI s_1.2 (start.length:Int))
 ((at? start s_1.2).bind fun e_9 =>
 (spec_l9Put s_1.1 (⟨0,e_9⟩:TState)).bind fun y_16 =>
 some (.inl (y_16,addI s_1.2 1)))
 (some (.inr s_1.1))) ([],0)).bind fun r_19 =>
 some (r_19.length:Int)

def spec_l27At (list:(List TState)) (s:TState):Option (Int) :=
 (iter (ρ:=(Int) ⊕ (Unit)) (fun s_1:Int =>
 cond (ltI s_1 (list.length:Int))
 ((at? list s_1).bind fun e_9 =>
 (spec_EqualState e_9 s).bind fun y_14 =>
 cond y_14
 (some (.inr (.inl s_1)))
 (some (.inl (addI s_1 1))))
 (some (.inr (.inr ())))) 0).bind fun r_18 =>
 Sum.elim (fun r_18 =>
 some r_18)
 (fun _r_18 =>
 some (-1)) r_18

def spec_l27Path (p_:TProgram) (list:(List TState)) (count:Int) (at_:Int):Option (TFailure) :=
 (iter (ρ:=(Unit) ⊕ (Int × (List Int))) (fun s_1:Int × (List Int) =>
 cond (leI count s_1.1)
 ((iter (ρ:=Int × (List Int) × Bool) (fun s_9:Int × (List Int) × Bool × Int =>
 cond (ltI s_9.2.2.2 s_9.1)
 (cond s_9.2.2.1
 (some (.inr (s_9.1,s_9.2.1,s_9.2.2.1)))
 ((at? list s_9.2.2.2).bind fun e_18 =>
 (spec_EdgesFrom p_ e_18.point).bind fun y_23 =>
 (iter (ρ:=Int × (List Int) × Bool) (fun s_26:Int × (List Int) × Bool × Int =>
 cond (ltI s_26.2.2.2 (y_23.length:Int))
 (cond s_26.2.2.1
 (some (.inr (s_26.1,s_26.2.1,s_26.2.2.1)))
 ((at? y_23 s_26.2.2.2).bind fun e_35 =>
 (at? p_.edges e_35).bind fun e_40 =>
 (at? list s_9.2.2.2).bind fun _ =>
 (spec_Exec p_.vars e_40.stmt e_18.heap).bind fun y_51 =>
 cond (eqI y_51.2 0)
 ((spec_l27At list (⟨e_40.to_,y_51.1⟩:TState)).bind fun y_56 =>
 cond (eqI y_56 s_26.1)
 ((at? y_23 s_26.2.2.2).bind fun _ =>
 (room ([e_35].length+s_26.2.1.length) 8).bind fun _ =>
 some (.inl (s_9.2.2.2,[e_35] ++ s_26.2.1,true,addI s_26.2.2.2 1)))
 (some (.inl (s_26.1,s_26.2.1,s_26.2.2.1,addI s_26.2.2.2 1))))
 (some (.inl (s_26.1,s_26.2.1,s_26.2.2.1,addI s_26.2.2.2 1)))))
 (some (.inr (s_26.1,s_26.2.1,s_26.2.2.1)))) (s_9.1,s_9.2.1,s_9.2.2.1,0)).bind fun r_67 =>
 some (.inl (r_67.1,r_67.2.1,r_67.2.2,addI s_9.2.2.2 1))))
 (some (.inr (s_9.1,s_9.2.1,s_9.2.2.1)))) (s_1.1,s_1.2,false,0)).bind fun r_72 =>
 cond r_72.2.2
 (some (.inl (r_72.1,r_72.2.1)))
 (some (.inr (.inl ()))))
 (some (.inr (.inr (s_1.1,s_1.2))))) (at_,[])).bind fun r_78 =>
 Sum.elim (fun _r_78 =>
 some (⟨(⟨[],[]⟩:THeap),[],0⟩:TFailure))
 (fun r_78 =>
 (at? list r_78.1).bind fun e_86 =>
 (spec_l7Copy e_86.heap).bind fun y_91 =>
 some (⟨y_91,r_78.2,0⟩:TFailure)) r_78

def spec_l27Find (p_:TProgram) (start:(List THeap)) (edge:Int) (want:Int):Option (TFailure × Bool) :=
 (spec_StatesFrom p_ start).bind fun y_1 =>
 cond y_1.2
 ((iter (ρ:=(Bool × (List Int) × (List Int) × (List Int) × Int) ⊕ (Unit)) (fun s_5:Int =>
 cond (ltI s_5 (y_1.1.length:Int))
 ((at? y_1.1 s_5).bind fun e_13 =>
 (spec_EdgesFrom p_ e_13.point).bind fun y_18 =>
 (iter (ρ:=(Bool × (List Int) × (List Int) × (List Int) × Int) ⊕ (Unit)) (fun s_21:Int =>
 cond (ltI s_21 (y_18.length:Int))
 ((at? y_18 s_21).bind fun e_29 =>
 (at? p_.edges e_29).bind fun e_34 =>
 (at? y_1.1 s_5).bind fun _ =>
 (spec_Exec p_.vars e_34.stmt e_13.heap).bind fun y_44 =>
 (spec_IsError y_44.2).bind fun y_48 =>
 cond y_48
 (cond (ltI edge 0)
 ((spec_l27Start start).bind fun y_53 =>
 (spec_l27Path p_ y_1.1 y_53 s_5).bind fun y_56 =>
 (at? y_18 s_21).bind fun _ =>
 (room (y_56.edges.length + [e_29].length) 8).bind fun _ =>
 some (.inr (.inl (true,y_56.heap.vars,y_56.heap.next,y_56.edges ++ [e_29],y_44.2))))
 ((at? y_18 s_21).bind fun _ =>
 cond (eqI edge e_29)
 (cond (eqI want y_44.2)
 ((spec_l27Start start).bind fun y_74 =>
 (spec_l27Path p_ y_1.1 y_74 s_5).bind fun y_77 =>
 (at? y_18 s_21).bind fun _ =>
 (room (y_77.edges.length + [e_29].length) 8).bind fun _ =>
 some (.inr (.inl (true,y_77.heap.vars,y_77.heap.next,y_77.edges ++ [e_29],y_44.2))))
 (some (.inl (addI s_21 1))))
 (some (.inl (addI s_21 1)))))
 (some (.inl (addI s_21 1))))
 (some (.inr (.inr ())))) 0).bind fun r_88 =>
 Sum.elim (fun r_88 =>
 some (.inr (.inl (r_88.1,r_88.2.1,r_88.2.2.1,r_88.2.2.2.1,r_88.2.2.2.2))))
 (fun _r_88 =>
 some (.inl (addI s_5 1))) r_88)
 (some (.inr (.inr ())))) 0).bind fun r_96 =>
 Sum.elim (fun r_96 =>
 some ((⟨(⟨r_96.2.1,r_96.2.2.1⟩:THeap),r_96.2.2.2.1,r_96.2.2.2.2⟩:TFailure),r_96.1))
 (fun _r_96 =>
 some ((⟨(⟨[],[]⟩:THeap),[],0⟩:TFailure),false)) r_96)
 (some ((⟨(⟨[],[]⟩:THeap),[],0⟩:TFailure),false))

def spec_ConfirmAlarm (p_:TProgram) (start:(List THeap)) (a_:TAlarm):Option (TFailure × Bool) :=
 cond (ltI a_.edge 0)
 (some ((⟨(⟨[],[]⟩:THeap),[],0⟩:TFailure),false))
 ((spec_l27Find p_ start a_.edge a_.code).bind fun y_2 =>
 some (y_2.1,y_2.2))

def impl_within (n_:Int) (low:Int) (high:Int):Option (Bool) :=
 cond (leI low n_)
 (some (leI n_ high))
 (some false)

def impl_IsName (s:ByteArray):Option (Bool) :=
 (iter (ρ:=(Unit) ⊕ (Unit)) (fun s_1:Int =>
 cond (ltI s_1 (s.size:Int))
 ((chr? s s_1).bind fun e_9 =>
 cond (ltI e_9 97)
 (some (.inr (.inl ())))
 ((chr? s s_1).bind fun _ =>
 cond (ltI 122 e_9)
 (some (.inr (.inl ())))
 (some (.inl (addI s_1 1)))))
 (some (.inr (.inr ())))) 0).bind fun r_15 =>
 Sum.elim (fun _r_15 =>
 some false)
 (fun _r_15 =>
 (impl_within (s.size:Int) 1 2).bind fun y_23 =>
 some y_23) r_15

def slices_Index_string (s:(List ByteArray)) (v:ByteArray):Option (Int) :=
 (iter (ρ:=(Int) ⊕ (Unit)) (fun s_1:Int =>
 cond (ltI s_1 (s.length:Int))
 ((at? s s_1).bind fun e_9 =>
 cond (eqS v e_9)
 (some (.inr (.inl s_1)))
 (some (.inl (addI s_1 1))))
 (some (.inr (.inr ())))) 0).bind fun r_15 =>
 Sum.elim (fun r_15 =>
 some r_15)
 (fun _r_15 =>
 some (-1)) r_15

def impl_IndexOf (list:(List ByteArray)) (s:ByteArray):Option (Int) :=
 (slices_Index_string list s).bind fun y_1 =>
 some y_1

def impl_AreVars (list:(List ByteArray)):Option (Bool) :=
 (iter (ρ:=(Unit) ⊕ (Unit)) (fun s_1:Int =>
 cond (ltI s_1 (list.length:Int))
 ((at? list s_1).bind fun e_9 =>
 (impl_IsName e_9).bind fun y_14 =>
 cond y_14
 ((impl_IndexOf list e_9).bind fun y_18 =>
 cond (neI y_18 s_1)
 (some (.inr (.inl ())))
 (some (.inl (addI s_1 1))))
 (some (.inr (.inl ()))))
 (some (.inr (.inr ())))) 0).bind fun r_22 =>
 Sum.elim (fun _r_22 =>
 some false)
 (fun _r_22 =>
 (impl_within (list.length:Int) 1 4).bind fun y_30 =>
 some y_30) r_22

def slices_Contains_string (s:(List ByteArray)) (v:ByteArray):Option (Bool) :=
 (slices_Index_string s v).bind fun y_1 =>
 some (leI 0 y_1)

def impl_NamesOf (kind:Int):Option (Int) :=
 (impl_within kind 1 12).bind fun y_1 =>
 cond y_1
 ((at? [0,1,1,2,2,1,2,1,1,1,2,2] (subI kind 1)).bind fun e_5 =>
 some e_5)
 (some (-1))

def impl_Stmt_hasNames (s:TStmt) (accept:(ByteArray→Option (Bool))):Option (Bool) :=
 (impl_NamesOf s.kind).bind fun y_1 =>
 (iter (ρ:=(Unit) ⊕ (Unit)) (fun s_4:Int =>
 cond (ltI s_4 ([s.a,s.b].length:Int))
 ((at? [s.a,s.b] s_4).bind fun e_15 =>
 cond (ltI s_4 y_1)
 ((accept e_15).bind fun y_21 =>
 cond y_21
 (cond (leI y_1 s_4)
 (cond (neS e_15 (⟨#[]⟩:ByteArray))
 (some (.inr (.inl ())))
 (some (.inl (addI s_4 1))))
 (some (.inl (addI s_4 1))))
 (some (.inr (.inl ()))))
 (cond (leI y_1 s_4)
 (cond (neS e_15 (⟨#[]⟩:ByteArray))
 (some (.inr (.inl ())))
 (some (.inl (addI s_4 1))))
 (some (.inl (addI s_4 1)))))
 (some (.inr (.inr ())))) 0).bind fun r_28 =>
 Sum.elim (fun _r_28 =>
 some false)
 (fun _r_28 =>
 some (leI 0 y_1)) r_28

def impl_IsStmt_1 (name:ByteArray) (c0:(List ByteArray)):Option (Bool) :=
 (slices_Contains_string c0 name).bind fun y_1 =>
 some y_1

def impl_IsStmt (vars:(List ByteArray)) (s:TStmt):Option (Bool) :=
 (impl_AreVars vars).bind fun y_1 =>
 cond y_1
 ((impl_Stmt_hasNames s (fun x0=>impl_IsStmt_1 x0 vars)).bind fun y_5 =>
 some y_5)
 (some false)

def slices_IndexFunc_Edge (s:(List TEdge)) (f_:(TEdge→Option (Bool))):Option (Int) :=
 (iter (ρ:=(Int) ⊕ (Unit)) (fun s_1:Int =>
 cond (ltI s_1 (s.length:Int))
 ((at? s s_1).bind fun e_10 =>
 (f_ e_10).bind fun y_15 =>
 cond y_15
 (some (.inr (.inl s_1)))
 (some (.inl (addI s_1 1))))
 (some (.inr (.inr ())))) 0).bind fun r_18 =>
 Sum.elim (fun r_18 =>
 some r_18)
 (fun _r_18 =>
 some (-1)) r_18

def slices_ContainsFunc_Edge (s:(List TEdge)) (f_:(TEdge→Option (Bool))):Option (Bool) :=
 (slices_IndexFunc_Edge s f_).bind fun y_1 =>
 some (leI 0 y_1)

def impl_IsProgram_1 (e:TEdge) (c0:TProgram):Option (Bool) :=
 (impl_within e.from_ 0 (subI c0.points 1)).bind fun y_1 =>
 cond y_1
 ((impl_within e.to_ 0 (subI c0.points 1)).bind fun y_5 =>
 cond y_5
 ((impl_IsStmt c0.vars e.stmt).bind fun y_9 =>
 some (notB y_9))
 (some true))
 (some true)

def impl_IsProgram (p_:TProgram):Option (Bool) :=
 (impl_AreVars p_.vars).bind fun y_1 =>
 cond y_1
 ((impl_within p_.points 1 12).bind fun y_5 =>
 cond y_5
 (cond (ltI 24 (p_.edges.length:Int))
 (some false)
 ((slices_ContainsFunc_Edge p_.edges (fun x0=>impl_IsProgram_1 x0 p_)).bind fun y_10 =>
 some (notB y_10)))
 (some false))
 (some false)

def impl_Heap_isCell (h_:THeap) (n_:Int):Option (Bool) :=
 (impl_within n_ 0 (subI (h_.next.length:Int) 1)).bind fun y_1 =>
 some y_1

def slices_IndexFunc_int (s:(List Int)) (f_:(Int→Option (Bool))):Option (Int) :=
 (iter (ρ:=(Int) ⊕ (Unit)) (fun s_1:Int =>
 cond (ltI s_1 (s.length:Int))
 ((at? s s_1).bind fun e_10 =>
 (f_ e_10).bind fun y_15 =>
 cond y_15
 (some (.inr (.inl s_1)))
 (some (.inl (addI s_1 1))))
 (some (.inr (.inr ())))) 0).bind fun r_18 =>
 Sum.elim (fun r_18 =>
 some r_18)
 (fun _r_18 =>
 some (-1)) r_18

def slices_ContainsFunc_int (s:(List Int)) (f_:(Int→Option (Bool))):Option (Bool) :=
 (slices_IndexFunc_int s f_).bind fun y_1 =>
 some (leI 0 y_1)

def impl_Heap_areCells_1 (n_:Int) (c0:THeap):Option (Bool) :=
 cond (neI n_ (-1))
 ((impl_Heap_isCell c0 n_).bind fun y_2 =>
 some (notB y_2))
 (some false)

def impl_Heap_areCells (h_:THeap):Option (Bool) :=
 (slices_Concat_int [h_.vars,h_.next]).bind fun y_1 =>
 (slices_ContainsFunc_int y_1 (fun x0=>impl_Heap_areCells_1 x0 h_)).bind fun y_4 =>
 some (notB y_4)

def slices_Index_int (s:(List Int)) (v:Int):Option (Int) :=
 (iter (ρ:=(Int) ⊕ (Unit)) (fun s_1:Int =>
 cond (ltI s_1 (s.length:Int))
 ((at? s s_1).bind fun e_9 =>
 cond (eqI v e_9)
 (some (.inr (.inl s_1)))
 (some (.inl (addI s_1 1))))
 (some (.inr (.inr ())))) 0).bind fun r_15 =>
 Sum.elim (fun r_15 =>
 some r_15)
 (fun _r_15 =>
 some (-1)) r_15

def zam (s:(List Int)) (v:Int):Option (Bool) :=
 (slices_Index_int s v).bind fun y_1 =>
 some (leI 0 y_1)

def impl_Followed (h_:THeap) (cell:Int):Option ((List Int)) :=
 (iter (ρ:=((List Int)) ⊕ (Unit)) (fun s_1:(List Int) × Int =>
 cond (neI s_1.2 (-1))
 ((impl_Heap_isCell h_ s_1.2).bind fun y_9 =>
 cond y_9
 ((zam s_1.1 s_1.2).bind fun y_13 =>
 cond y_13
 (some (.inr (.inl s_1.1)))
 ((room (s_1.1.length + [s_1.2].length) 8).bind fun _ =>
 (at? h_.next s_1.2).bind fun e_19 =>
 some (.inl (s_1.1 ++ [s_1.2],e_19))))
 (some (.inr (.inr ()))))
 (cond (eqI cell (-1))
 ((impl_Heap_isCell h_ s_1.2).bind fun y_25 =>
 cond y_25
 ((zam s_1.1 s_1.2).bind fun y_29 =>
 cond y_29
 (some (.inr (.inl s_1.1)))
 ((room (s_1.1.length + [s_1.2].length) 8).bind fun _ =>
 (at? h_.next s_1.2).bind fun e_35 =>
 some (.inl (s_1.1 ++ [s_1.2],e_35))))
 (some (.inr (.inr ()))))
 (some (.inr (.inl s_1.1))))) ([],cell)).bind fun r_40 =>
 Sum.elim (fun r_40 =>
 some r_40)
 (fun _r_40 =>
 some []) r_40

def impl_Heap_isCyclic (h_:THeap):Option (Bool) :=
 (iter (ρ:=(Bool) ⊕ (Unit)) (fun s_1:Int =>
 cond (ltI s_1 (h_.next.length:Int))
 ((at? h_.next s_1).bind fun e_9 =>
 (impl_Followed h_ e_9).bind fun y_14 =>
 (zam y_14 s_1).bind fun y_17 =>
 cond y_17
 (some (.inr (.inl true)))
 (some (.inl (addI s_1 1))))
 (some (.inr (.inr ())))) 0).bind fun r_21 =>
 Sum.elim (fun r_21 =>
 some r_21)
 (fun _r_21 =>
 some false) r_21

def impl_Heap_met (h_:THeap):Option ((List Int)) :=
 (iter (ρ:=(List Int)) (fun s_1:(List Int) × Int =>
 cond (ltI s_1.2 (h_.vars.length:Int))
 ((at? h_.vars s_1.2).bind fun e_9 =>
 (impl_Followed h_ e_9).bind fun y_14 =>
 (iter (ρ:=(List Int)) (fun s_17:Int × (List Int) =>
 cond (ltI s_17.1 (y_14.length:Int))
 ((at? y_14 s_17.1).bind fun e_25 =>
 (zam s_17.2 e_25).bind fun y_30 =>
 cond y_30
 (some (.inl (addI s_17.1 1,s_17.2)))
 ((room (s_17.2.length + [e_25].length) 8).bind fun _ =>
 some (.inl (addI s_17.1 1,s_17.2 ++ [e_25]))))
 (some (.inr s_17.2))) (0,s_1.1)).bind fun r_36 =>
 some (.inl (r_36,addI s_1.2 1)))
 (some (.inr s_1.1))) ([],0)).bind fun r_41 =>
 some r_41

def impl_IsHeap (vars:Int) (h_:THeap):Option (Bool) :=
 (impl_within vars 1 4).bind fun y_1 =>
 cond y_1
 (cond (neI (h_.vars.length:Int) vars)
 (some false)
 (cond (ltI 6 (h_.next.length:Int))
 (some false)
 ((impl_Heap_areCells h_).bind fun y_7 =>
 cond y_7
 ((impl_Heap_isCyclic h_).bind fun y_11 =>
 cond y_11
 (some false)
 ((impl_Heap_met h_).bind fun y_15 =>
 (iter (ρ:=(Unit) ⊕ (Unit)) (fun s_18:Int =>
 cond (ltI s_18 (y_15.length:Int))
 ((at? y_15 s_18).bind fun e_26 =>
 cond (neI e_26 s_18)
 (some (.inr (.inl ())))
 (some (.inl (addI s_18 1))))
 (some (.inr (.inr ())))) 0).bind fun r_32 =>
 Sum.elim (fun _r_32 =>
 some false)
 (fun _r_32 =>
 some (eqI (y_15.length:Int) (h_.next.length:Int))) r_32))
 (some false))))
 (some false)

def slices_Equal_int (s1:(List Int)) (s2:(List Int)):Option (Bool) :=
 cond (neI (s1.length:Int) (s2.length:Int))
 (some false)
 ((iter (ρ:=(Unit) ⊕ (Unit)) (fun s_2:Int =>
 cond (ltI s_2 (s1.length:Int))
 ((at? s1 s_2).bind fun e_10 =>
 (at? s2 s_2).bind fun e_15 =>
 cond (neI e_10 e_15)
 (some (.inr (.inl ())))
 (some (.inl (addI s_2 1))))
 (some (.inr (.inr ())))) 0).bind fun r_21 =>
 Sum.elim (fun _r_21 =>
 some false)
 (fun _r_21 =>
 some true) r_21)

def impl_EqualHeap (a_:THeap) (b_:THeap):Option (Bool) :=
 (slices_Equal_int a_.vars b_.vars).bind fun y_1 =>
 cond y_1
 ((slices_Equal_int a_.next b_.next).bind fun y_5 =>
 some y_5)
 (some false)

def impl_EqualState (a_:TState) (b_:TState):Option (Bool) :=
 cond (eqI a_.point b_.point)
 ((impl_EqualHeap a_.heap b_.heap).bind fun y_2 =>
 some y_2)
 (some false)

def impl_Heap_own (h_:THeap):Option (THeap) :=
 (slices_Clone_int h_.vars).bind fun y_1 =>
 (slices_Clone_int h_.next).bind fun y_4 =>
 some (⟨y_1,y_4⟩:THeap)

def impl_EdgesFrom (p_:TProgram) (point:Int):Option ((List Int)) :=
 (iter (ρ:=(List Int)) (fun s_1:(List Int) × Int =>
 cond (ltI s_1.2 (p_.edges.length:Int))
 ((at? p_.edges s_1.2).bind fun e_9 =>
 cond (eqI e_9.from_ point)
 ((room (s_1.1.length + [s_1.2].length) 8).bind fun _ =>
 some (.inl (s_1.1 ++ [s_1.2],addI s_1.2 1)))
 (some (.inl (s_1.1,addI s_1.2 1))))
 (some (.inr s_1.1))) ([],0)).bind fun r_18 =>
 some r_18

def impl_Heap_at (h_:THeap) (vars:(List ByteArray)) (name:ByteArray):Option (Int) :=
 (impl_IndexOf vars name).bind fun y_1 =>
 cond (leI 0 y_1)
 ((at? h_.vars y_1).bind fun e_5 =>
 some e_5)
 (some (-1))

def impl_needs (kind:Int) (a_:Int) (b_:Int):Option (Int × Bool) :=
 cond (eqI kind 5)
 (some (b_,true))
 (cond (eqI kind 6)
 (some (a_,true))
 (cond (eqI kind 7)
 (some (a_,true))
 (cond (eqI kind 8)
 (some (a_,true))
 (some (0,false)))))

def impl_IsTest (s:TStmt):Option (Bool) :=
 (impl_within s.kind 9 12).bind fun y_1 =>
 some y_1

def impl_holds (kind:Int) (a_:Int) (b_:Int):Option (Bool) :=
 cond (eqI kind 9)
 (some (eqI a_ (-1)))
 (cond (eqI kind 10)
 (some (neI a_ (-1)))
 (cond (eqI kind 11)
 (some (eqI a_ b_))
 (some (neI a_ b_))))

def impl_Positions (list:(List Int)) (n_:Int):Option ((List Int)) :=
 (iter (ρ:=(List Int)) (fun s_1:(List Int) × Int =>
 cond (ltI s_1.2 (list.length:Int))
 ((at? list s_1.2).bind fun e_9 =>
 cond (eqI e_9 n_)
 ((room (s_1.1.length + [s_1.2].length) 8).bind fun _ =>
 some (.inl (s_1.1 ++ [s_1.2],addI s_1.2 1)))
 (some (.inl (s_1.1,addI s_1.2 1))))
 (some (.inr s_1.1))) ([],0)).bind fun r_17 =>
 some r_17

def zap (h_:THeap) (s:TStmt) (own:Int) (a_:Int) (b_:Int):Option (THeap) :=
 (slices_Clone_int h_.vars).bind fun y_1 =>
 (slices_Clone_int h_.next).bind fun y_4 =>
 cond (eqI s.kind 2)
 ((at? y_1 own).bind fun e_8 =>
 some (⟨y_1.set own.toNat (-1),y_4⟩:THeap))
 (cond (eqI s.kind 3)
 ((at? y_1 own).bind fun e_15 =>
 (room (y_4.length + [(-1)].length) 8).bind fun _ =>
 some (⟨y_1.set own.toNat (y_4.length:Int),y_4 ++ [(-1)]⟩:THeap))
 (cond (eqI s.kind 4)
 ((at? y_1 own).bind fun e_24 =>
 some (⟨y_1.set own.toNat b_,y_4⟩:THeap))
 (cond (eqI s.kind 5)
 ((at? h_.next b_).bind fun e_31 =>
 (at? y_1 own).bind fun e_36 =>
 some (⟨y_1.set own.toNat e_31,y_4⟩:THeap))
 (cond (eqI s.kind 6)
 ((at? y_4 a_).bind fun e_43 =>
 some (⟨y_1,y_4.set a_.toNat (-1)⟩:THeap))
 (cond (eqI s.kind 7)
 ((at? y_4 a_).bind fun e_50 =>
 some (⟨y_1,y_4.set a_.toNat b_⟩:THeap))
 (cond (eqI s.kind 8)
 ((at? y_1 own).bind fun e_57 =>
 (impl_Heap_without (⟨y_1.set own.toNat (-1),y_4⟩:THeap) a_).bind fun y_65 =>
 some y_65)
 (some (⟨y_1,y_4⟩:THeap))))))))

def impl_HasLeak (h_:THeap):Option (Bool) :=
 (impl_Heap_met h_).bind fun y_1 =>
 some (ltI (y_1.length:Int) (h_.next.length:Int))

def impl_CanonHeap_1 (c:Int) (c0:(List Int)):Option (Int) :=
 (slices_Index_int c0 c).bind fun y_1 =>
 some y_1

def impl_CanonHeap (h_:THeap):Option (THeap) :=
 (impl_Heap_areCells h_).bind fun y_1 =>
 cond y_1
 ((impl_Heap_met h_).bind fun y_5 =>
 (iter (ρ:=(List Int)) (fun s_8:Int × (List Int) =>
 cond (ltI s_8.1 (h_.vars.length:Int))
 ((at? h_.vars s_8.1).bind fun e_17 =>
 (impl_CanonHeap_1 e_17 y_5).bind fun y_22 =>
 (room (s_8.2.length + [y_22].length) 8).bind fun _ =>
 some (.inl (addI s_8.1 1,s_8.2 ++ [y_22])))
 (some (.inr s_8.2))) (0,[])).bind fun r_26 =>
 (iter (ρ:=(List Int)) (fun s_32:Int × (List Int) =>
 cond (ltI s_32.1 (y_5.length:Int))
 ((at? y_5 s_32.1).bind fun e_41 =>
 (at? h_.next e_41).bind fun e_46 =>
 (impl_CanonHeap_1 e_46 y_5).bind fun y_51 =>
 (room (s_32.2.length + [y_51].length) 8).bind fun _ =>
 some (.inl (addI s_32.1 1,s_32.2 ++ [y_51])))
 (some (.inr s_32.2))) (0,[])).bind fun r_55 =>
 some (⟨r_26,r_55⟩:THeap))
 (some (⟨[],[]⟩:THeap))

def impl_Exec (vars:(List ByteArray)) (s:TStmt) (h_:THeap):Option (THeap × Int) :=
 (show Option (Bool) from
 (impl_IsStmt vars s).bind fun y_7 =>
 cond y_7
 ((impl_IsHeap (vars.length:Int) h_).bind fun y_11 =>
 some (notB y_11))
 (some true)).bind fun r_1 =>
 cond r_1
 (some ((⟨[],[]⟩:THeap),7))
 ((impl_IndexOf vars s.a).bind fun y_15 =>
 (impl_Heap_at h_ vars s.a).bind fun y_18 =>
 (impl_Heap_at h_ vars s.b).bind fun y_21 =>
 (impl_needs s.kind y_18 y_21).bind fun y_24 =>
 (show Option (Bool) from
 (impl_IsTest s).bind fun y_33 =>
 cond y_33
 ((impl_holds s.kind y_18 y_21).bind fun y_37 =>
 some (notB y_37))
 (some false)).bind fun r_27 =>
 cond r_27
 (some ((⟨[],[]⟩:THeap),1))
 ((show Option (Bool) from
 cond y_24.2
 (some (eqI y_24.1 (-1)))
 (some false)).bind fun r_41 =>
 cond r_41
 (some ((⟨[],[]⟩:THeap),2))
 ((show Option (Bool) from
 cond (eqI s.kind 3)
 (some (eqI (h_.next.length:Int) 6))
 (some false)).bind fun r_49 =>
 cond r_49
 (some ((⟨[],[]⟩:THeap),6))
 ((show Option (Bool) from
 cond (eqI s.kind 8)
 ((impl_Positions h_.vars y_18).bind fun y_64 =>
 cond (ltI 1 (y_64.length:Int))
 (some true)
 ((zam h_.next y_18).bind fun y_68 =>
 some y_68))
 (some false)).bind fun r_57 =>
 cond r_57
 (some ((⟨[],[]⟩:THeap),5))
 ((show Option (Bool) from
 cond (eqI s.kind 7)
 ((impl_Followed h_ y_21).bind fun y_79 =>
 (zam y_79 y_18).bind fun y_82 =>
 some y_82)
 (some false)).bind fun r_72 =>
 cond r_72
 (some ((⟨[],[]⟩:THeap),3))
 ((zap h_ s y_15 y_18 y_21).bind fun y_86 =>
 (impl_HasLeak y_86).bind fun y_90 =>
 cond y_90
 (some ((⟨[],[]⟩:THeap),4))
 ((impl_CanonHeap y_86).bind fun y_94 =>
 some (y_94,0))))))))

def slices_IndexFunc_Heap (s:(List THeap)) (f_:(THeap→Option (Bool))):Option (Int) :=
 (iter (ρ:=(Int) ⊕ (Unit)) (fun s_1:Int =>
 cond (ltI s_1 (s.length:Int))
 ((at? s s_1).bind fun e_10 =>
 (f_ e_10).bind fun y_15 =>
 cond y_15
 (some (.inr (.inl s_1)))
 (some (.inl (addI s_1 1))))
 (some (.inr (.inr ())))) 0).bind fun r_18 =>
 Sum.elim (fun r_18 =>
 some r_18)
 (fun _r_18 =>
 some (-1)) r_18

def slices_ContainsFunc_Heap (s:(List THeap)) (f_:(THeap→Option (Bool))):Option (Bool) :=
 (slices_IndexFunc_Heap s f_).bind fun y_1 =>
 some (leI 0 y_1)

def impl_explore_1 (h_:THeap) (c0:TProgram):Option (Bool) :=
 (impl_IsHeap (c0.vars.length:Int) h_).bind fun y_1 =>
 some (notB y_1)

def slices_IndexFunc_metState (s:(List TMetState)) (f_:(TMetState→Option (Bool))):Option (Int) :=
 (iter (ρ:=(Int) ⊕ (Unit)) (fun s_1:Int =>
 cond (ltI s_1 (s.length:Int))
 ((at? s s_1).bind fun e_10 =>
 (f_ e_10).bind fun y_15 =>
 cond y_15
 (some (.inr (.inl s_1)))
 (some (.inl (addI s_1 1))))
 (some (.inr (.inr ())))) 0).bind fun r_18 =>
 Sum.elim (fun r_18 =>
 some r_18)
 (fun _r_18 =>
 some (-1)) r_18

def slices_ContainsFunc_metState (s:(List TMetState)) (f_:(TMetState→Option (Bool))):Option (Bool) :=
 (slices_IndexFunc_metState s f_).bind fun y_1 =>
 some (leI 0 y_1)

def impl_explore_2_1 (x_:TMetState) (c0:TState):Option (Bool) :=
 (impl_EqualState x_.state c0).bind fun y_1 =>
 some y_1

def impl_explore_2 (s:TState) (from_:Int) (edge:Int) (c0:(List TMetState)):Option ((List TMetState)) :=
 (slices_ContainsFunc_metState c0 (fun x0=>impl_explore_2_1 x0 s)).bind fun y_1 =>
 cond y_1
 (some c0)
 ((room (c0.length + [(⟨s,from_,edge⟩:TMetState)].length) 72).bind fun _ =>
 some (c0 ++ [(⟨s,from_,edge⟩:TMetState)]))

def impl_explore (p_:TProgram) (start:(List THeap)):Option ((List TMetState) × Bool) :=
 (impl_IsProgram p_).bind fun y_1 =>
 cond y_1
 ((slices_ContainsFunc_Heap start (fun x0=>impl_explore_1 x0 p_)).bind fun y_5 =>
 cond y_5
 (some ([],false))
 ((iter (ρ:=(List TMetState)) (fun s_8:Int × (List TMetState) =>
 cond (ltI s_8.1 (start.length:Int))
 ((at? start s_8.1).bind fun e_17 =>
 (impl_Heap_own e_17).bind fun y_23 =>
 (impl_explore_2 (⟨0,y_23⟩:TState) (-1) (-1) s_8.2).bind fun y_28 =>
 some (.inl (addI s_8.1 1,y_28)))
 (some (.inr s_8.2))) (0,[])).bind fun r_30 =>
 (iter (ρ:=(List TMetState)) (fun s_36:Int × (List TMetState) =>
 cond (ltI s_36.1 (s_36.2.length:Int))
 (cond (leI (s_36.2.length:Int) 200)
 ((at? s_36.2 s_36.1).bind fun e_46 =>
 (impl_EdgesFrom p_ e_46.state.point).bind fun y_51 =>
 (iter (ρ:=(List TMetState)) (fun s_54:Int × (List TMetState) =>
 cond (ltI s_54.1 (y_51.length:Int))
 ((at? y_51 s_54.1).bind fun e_63 =>
 (at? p_.edges e_63).bind fun e_68 =>
 (at? s_54.2 s_36.1).bind fun e_73 =>
 (impl_Exec p_.vars e_68.stmt e_73.state.heap).bind fun y_78 =>
 cond (eqI y_78.2 0)
 ((at? p_.edges e_63).bind fun _ =>
 (impl_explore_2 (⟨e_68.to_,y_78.1⟩:TState) s_36.1 e_63 s_54.2).bind fun y_90 =>
 some (.inl (addI s_54.1 1,y_90)))
 (some (.inl (addI s_54.1 1,s_54.2))))
 (some (.inr s_54.2))) (0,s_36.2)).bind fun r_92 =>
 some (.inl (addI s_36.1 1,r_92)))
 (some (.inr s_36.2)))
 (some (.inr s_36.2))) (0,r_30)).bind fun r_98 =>
 some (r_98,leI (r_98.length:Int) 200)))
 (some ([],false))

def impl_IsError (code:Int):Option (Bool) :=
 (impl_within code 2 5).bind fun y_1 =>
 some y_1

def slices_Reverse_int (m3_1242:(List Int)):Option ((List Int)) :=
 (iter (ρ:=(List Int)) (fun s_1:Int × Int × (List Int) =>
 cond (ltI s_1.1 s_1.2.1)
 ((at? s_1.2.2 s_1.2.1).bind fun e_9 =>
 (at? s_1.2.2 s_1.1).bind fun e_14 =>
 (at? s_1.2.2 s_1.1).bind fun _ =>
 (at? (s_1.2.2.set s_1.1.toNat e_9) s_1.2.1).bind fun e_25 =>
 some (.inl (addI s_1.1 1,subI s_1.2.1 1,(s_1.2.2.set s_1.1.toNat e_9).set s_1.2.1.toNat e_14)))
 (some (.inr s_1.2.2))) (0,subI (m3_1242.length:Int) 1,m3_1242)).bind fun r_31 =>
 some r_31
def impl_ConfirmAlarm_1 (f_:TFailure) (m1_5_0:Int) (m1_5_1:Int):Option (Bool) :=
 (at? f_.edges (subI (f_.edges.length:Int) 1)).bind fun e_2 =>
 cond (eqI e_2 m1_5_0)
 (some (eqI f_.code m1_5_1))
 (some false)
def impl_firstFailure_1 (f_:TFailure) (m1_5_0:Int) (m1_5_1:Int) (m2_8_0:(List Int)) (m2_8_1:(List Int)) (m2_8_2:(List Int)) (m2_8_3:Int) (m2_9_0:Bool):Option (Bool × (List Int) × (List Int) × (List Int) × Int × Bool) :=
 (impl_ConfirmAlarm_1 f_ m1_5_0 m1_5_1).bind fun y_4 =>
 cond y_4
 (some (false,f_.heap.vars,f_.heap.next,f_.edges,f_.code,true))
 (some (notB m2_9_0,m2_8_0,m2_8_1,m2_8_2,m2_8_3,m2_9_0))
def impl_failures (p_:TProgram) (start:(List THeap)) (m1_5_0:Int) (m1_5_1:Int) (m2_8_0:(List Int)) (m2_8_1:(List Int)) (m2_8_2:(List Int)) (m2_8_3:Int) (m2_9_0:Bool):Option (Bool × (List Int) × (List Int) × (List Int) × Int × Bool) :=
 (impl_explore p_ start).bind fun y_2 =>
 cond y_2.2
 ((iter (ρ:=(Bool × (List Int) × (List Int) × (List Int) × Int × Bool) ⊕ ((List Int) × (List Int) × (List Int) × Int × Bool)) (fun s_6:Int × (List Int) × (List Int) × (List Int) × Int × Bool =>
 cond (ltI s_6.1 (y_2.1.length:Int))
 ((at? y_2.1 s_6.1).bind fun e_15 =>
 (impl_EdgesFrom p_ e_15.state.point).bind fun y_21 =>
 (iter (ρ:=(Bool × (List Int) × (List Int) × (List Int) × Int × Bool) ⊕ ((List Int) × (List Int) × (List Int) × Int × Bool)) (fun s_24:Int × (List Int) × (List Int) × (List Int) × Int × Bool =>
 cond (ltI s_24.1 (y_21.length:Int))
 ((at? y_21 s_24.1).bind fun e_33 =>
 (at? p_.edges e_33).bind fun e_38 =>
 (impl_Exec p_.vars e_38.stmt e_15.state.heap).bind fun y_43 =>
 (impl_IsError y_43.2).bind fun y_47 =>
 cond y_47
 ((iter (ρ:=Int × (List Int)) (fun s_52:Int × (List Int) =>
 (at? y_2.1 s_52.1).bind fun e_60 =>
 cond (leI 0 e_60.from_)
 ((at? y_2.1 s_52.1).bind fun _ =>
 (room (s_52.2.length + [e_60.edge].length) 8).bind fun _ =>
 (at? y_2.1 s_52.1).bind fun _ =>
 some (.inl (e_60.from_,s_52.2 ++ [e_60.edge])))
 (some (.inr (s_52.1,s_52.2)))) (s_6.1,[e_33])).bind fun r_78 =>
 (slices_Reverse_int r_78.2).bind fun y_87 =>
 (at? y_2.1 r_78.1).bind fun e_93 =>
 (impl_Heap_own e_93.state.heap).bind fun y_98 =>
 (impl_firstFailure_1 (⟨y_98,y_87,y_43.2⟩:TFailure) m1_5_0 m1_5_1 s_24.2.1 s_24.2.2.1 s_24.2.2.2.1 s_24.2.2.2.2.1 s_24.2.2.2.2.2).bind fun y_103 =>
 cond y_103.1
 (some (.inl (addI s_24.1 1,y_103.2.1,y_103.2.2.1,y_103.2.2.2.1,y_103.2.2.2.2.1,y_103.2.2.2.2.2)))
 (some (.inr (.inl (true,y_103.2.1,y_103.2.2.1,y_103.2.2.2.1,y_103.2.2.2.2.1,y_103.2.2.2.2.2)))))
 (some (.inl (addI s_24.1 1,s_24.2.1,s_24.2.2.1,s_24.2.2.2.1,s_24.2.2.2.2.1,s_24.2.2.2.2.2))))
 (some (.inr (.inr (s_24.2.1,s_24.2.2.1,s_24.2.2.2.1,s_24.2.2.2.2.1,s_24.2.2.2.2.2))))) (0,s_6.2.1,s_6.2.2.1,s_6.2.2.2.1,s_6.2.2.2.2.1,s_6.2.2.2.2.2)).bind fun r_110 =>
 Sum.elim (fun r_110 =>
 some (.inr (.inl (r_110.1,r_110.2.1,r_110.2.2.1,r_110.2.2.2.1,r_110.2.2.2.2.1,r_110.2.2.2.2.2))))
 (fun r_110 =>
 some (.inl (addI s_6.1 1,r_110.1,r_110.2.1,r_110.2.2.1,r_110.2.2.2.1,r_110.2.2.2.2))) r_110)
 (some (.inr (.inr (s_6.2.1,s_6.2.2.1,s_6.2.2.2.1,s_6.2.2.2.2.1,s_6.2.2.2.2.2))))) (0,m2_8_0,m2_8_1,m2_8_2,m2_8_3,m2_9_0)).bind fun r_120 =>
 Sum.elim (fun r_120 =>
 some (r_120.1,r_120.2.1,r_120.2.2.1,r_120.2.2.2.1,r_120.2.2.2.2.1,r_120.2.2.2.2.2))
 (fun r_120 =>
 some (true,r_120.1,r_120.2.1,r_120.2.2.1,r_120.2.2.2.1,r_120.2.2.2.2)) r_120)
 (some (false,m2_8_0,m2_8_1,m2_8_2,m2_8_3,m2_9_0))
def impl_firstFailure (p_:TProgram) (start:(List THeap)) (m1_5_0:Int) (m1_5_1:Int):Option ((TFailure × Bool)) :=
 (impl_failures p_ start m1_5_0 m1_5_1 [] [] [] 0 false).bind fun y_8 =>
 some ((⟨(⟨y_8.2.1,y_8.2.2.1⟩:THeap),y_8.2.2.2.1,y_8.2.2.2.2.1⟩:TFailure),y_8.2.2.2.2.2)
def impl_ConfirmAlarm (p_:TProgram) (start:(List THeap)) (a_:TAlarm):Option (TFailure × Bool) :=
 (impl_firstFailure p_ start a_.edge a_.code).bind fun y_3 =>
 some (y_3.1,y_3.2)

def laws_eqIntS (a_:(List Int)) (b_:(List Int)):Option (Bool) :=
 cond (neI (a_.length:Int) (b_.length:Int))
 (some false)
 ((iter (ρ:=(Unit) ⊕ (Unit)) (fun s_2:Int =>
 cond (ltI s_2 (a_.length:Int))
 ((at? a_ s_2).bind fun e_10 =>
 (at? b_ s_2).bind fun e_15 =>
 cond (neI e_10 e_15)
 (some (.inr (.inl ())))
 (some (.inl (addI s_2 1))))
 (some (.inr (.inr ())))) 0).bind fun r_21 =>
 Sum.elim (fun _r_21 =>
 some false)
 (fun _r_21 =>
 some true) r_21)

def laws_eqHeap (a_:THeap) (b_:THeap):Option (Bool) :=
 (laws_eqIntS a_.vars b_.vars).bind fun y_1 =>
 cond y_1
 ((laws_eqIntS a_.next b_.next).bind fun y_5 =>
 cond y_5
 (some true)
 (some false))
 (some false)

def laws_eqFailure (a_:TFailure) (b_:TFailure):Option (Bool) :=
 (laws_eqHeap a_.heap b_.heap).bind fun y_1 =>
 cond y_1
 ((laws_eqIntS a_.edges b_.edges).bind fun y_5 =>
 cond y_5
 (cond (neI a_.code b_.code)
 (some false)
 (some true))
 (some false))
 (some false)

def laws_eqStringS (a_:(List ByteArray)) (b_:(List ByteArray)):Option (Bool) :=
 cond (neI (a_.length:Int) (b_.length:Int))
 (some false)
 ((iter (ρ:=(Unit) ⊕ (Unit)) (fun s_2:Int =>
 cond (ltI s_2 (a_.length:Int))
 ((at? a_ s_2).bind fun e_10 =>
 (at? b_ s_2).bind fun e_15 =>
 cond (neS e_10 e_15)
 (some (.inr (.inl ())))
 (some (.inl (addI s_2 1))))
 (some (.inr (.inr ())))) 0).bind fun r_21 =>
 Sum.elim (fun _r_21 =>
 some false)
 (fun _r_21 =>
 some true) r_21)

def laws_eqStmt (a_:TStmt) (b_:TStmt):Option (Bool) :=
 cond (neI a_.kind b_.kind)
 (some false)
 (cond (neS a_.a b_.a)
 (some false)
 (cond (neS a_.b b_.b)
 (some false)
 (some true)))

def laws_eqEdge (a_:TEdge) (b_:TEdge):Option (Bool) :=
 cond (neI a_.from_ b_.from_)
 (some false)
 (cond (neI a_.to_ b_.to_)
 (some false)
 ((laws_eqStmt a_.stmt b_.stmt).bind fun y_3 =>
 cond y_3
 (some true)
 (some false)))

def laws_eqEdgeS (a_:(List TEdge)) (b_:(List TEdge)):Option (Bool) :=
 cond (neI (a_.length:Int) (b_.length:Int))
 (some false)
 ((iter (ρ:=(Unit) ⊕ (Unit)) (fun s_2:Int =>
 cond (ltI s_2 (a_.length:Int))
 ((at? a_ s_2).bind fun e_10 =>
 (at? b_ s_2).bind fun e_15 =>
 (laws_eqEdge e_10 e_15).bind fun y_20 =>
 cond y_20
 (some (.inl (addI s_2 1)))
 (some (.inr (.inl ()))))
 (some (.inr (.inr ())))) 0).bind fun r_24 =>
 Sum.elim (fun _r_24 =>
 some false)
 (fun _r_24 =>
 some true) r_24)

def laws_eqProgram (a_:TProgram) (b_:TProgram):Option (Bool) :=
 (laws_eqStringS a_.vars b_.vars).bind fun y_1 =>
 cond y_1
 (cond (neI a_.points b_.points)
 (some false)
 ((laws_eqEdgeS a_.edges b_.edges).bind fun y_6 =>
 cond y_6
 (some true)
 (some false)))
 (some false)

def laws_eqHeapS (a_:(List THeap)) (b_:(List THeap)):Option (Bool) :=
 cond (neI (a_.length:Int) (b_.length:Int))
 (some false)
 ((iter (ρ:=(Unit) ⊕ (Unit)) (fun s_2:Int =>
 cond (ltI s_2 (a_.length:Int))
 ((at? a_ s_2).bind fun e_10 =>
 (at? b_ s_2).bind fun e_15 =>
 (laws_eqHeap e_10 e_15).bind fun y_20 =>
 cond y_20
 (some (.inl (addI s_2 1)))
 (some (.inr (.inl ()))))
 (some (.inr (.inr ())))) 0).bind fun r_24 =>
 Sum.elim (fun _r_24 =>
 some false)
 (fun _r_24 =>
 some true) r_24)

def laws_heldIntS (a_:(List Int)) (k_:Int):Option (Int) :=
 (iter (ρ:=(Int) ⊕ (Int)) (fun s_1:Int × Int =>
 cond (ltI s_1.2 (a_.length:Int))
 ((at? a_ s_1.2).bind fun e_9 =>
 cond (neI e_9 s_1.1)
 (some (.inr (.inl (-1))))
 (some (.inl (addI s_1.1 1,addI s_1.2 1))))
 (some (.inr (.inr s_1.1)))) (k_,0)).bind fun r_15 =>
 Sum.elim (fun r_15 =>
 some r_15)
 (fun r_15 =>
 some r_15) r_15

def laws_heldHeap (a_:THeap) (k_:Int):Option (Int) :=
 (laws_heldIntS a_.vars k_).bind fun y_1 =>
 cond (ltI y_1 0)
 (some (-1))
 ((laws_heldIntS a_.next y_1).bind fun y_5 =>
 cond (ltI y_5 0)
 (some (-1))
 (some y_5))

def laws_heldFailure (a_:TFailure) (k_:Int):Option (Int) :=
 (laws_heldHeap a_.heap k_).bind fun y_1 =>
 cond (ltI y_1 0)
 (some (-1))
 ((laws_heldIntS a_.edges y_1).bind fun y_5 =>
 cond (ltI y_5 0)
 (some (-1))
 (some y_5))

def laws_FnExactConfirmAlarm (aP:TProgram) (aStart:(List THeap)) (aA:TAlarm):Option (Bool) :=
 (laws_szProgram aP 1048576).bind fun y_1 =>
 cond (ltI y_1 0)
 (some true)
 ((laws_szHeapS aStart y_1).bind fun y_5 =>
 cond (ltI y_5 0)
 (some true)
 ((laws_toProgram aP).bind fun y_9 =>
 (laws_toHeapS aStart).bind fun y_12 =>
 (laws_toAlarm aA).bind fun y_15 =>
 (spec_ConfirmAlarm y_9 y_12 y_15).bind fun y_18 =>
 (laws_toProgram aP).bind fun _ =>
 (laws_toHeapS aStart).bind fun _ =>
 (laws_toAlarm aA).bind fun _ =>
 (impl_ConfirmAlarm y_9 y_12 y_15).bind fun y_27 =>
 (laws_eqFailure y_27.1 y_18.1).bind fun y_30 =>
 cond y_30
 (cond (neB y_27.2 y_18.2)
 (some false)
 ((laws_toProgram aP).bind fun _ =>
 (laws_eqProgram y_9 y_9).bind fun y_37 =>
 cond y_37
 ((laws_toHeapS aStart).bind fun _ =>
 (laws_eqHeapS y_12 y_12).bind fun y_43 =>
 cond y_43
 ((markO mkF_markProgram y_9 1).bind fun r_47 =>
 (markO mkF_markHeapS y_12 r_47.2).bind fun r_75 =>
 cond (ltI r_75.2 0)
 (some false)
 ((laws_eqFailure y_27.1 y_18.1).bind fun y_103 =>
 cond y_103
 ((markO mkF_markFailure y_27.1 1).bind fun r_107 =>
 (laws_heldFailure r_107.1 1).bind fun y_133 =>
 cond (ltI y_133 0)
 (some false)
 (cond (neI y_133 r_107.2)
 (some false)
 ((laws_toProgram aP).bind fun y_138 =>
 (laws_toHeapS aStart).bind fun y_141 =>
 (laws_toAlarm aA).bind fun y_144 =>
 (impl_ConfirmAlarm y_138 y_141 y_144).bind fun y_147 =>
 (laws_eqFailure y_147.1 y_18.1).bind fun y_151 =>
 cond y_151
 (cond (neB y_147.2 y_18.2)
 (some false)
 ((laws_heldFailure r_107.1 1).bind fun _ =>
 some true))
 (some false))))
 (some false)))
 (some false))
 (some false)))
 (some false)))

end Go.Ev

