import Derived.Test.YtmmliafoddlgfaaGreatEvA7
import Derived.Test.YtmmliafoddlgfaaGreatEvA8
import Derived.Test.YtmmliafoddlgfaaGreatEvA9
set_option linter.unusedSimpArgs false
set_option linter.unusedVariables false
set_option linter.unnecessarySimpa false
namespace Go.Ev
def impl_Heap_without (h : THeap) (c : Int) : Option THeap := withoutF h c

def slices_Clone_int (s : (List Int)) : Option (List Int) := lib_Clone 8 s

def slices_Concat_int (s : (List (List Int))) : Option (List Int) := lib_Concat 8 s

noncomputable def laws_szStringS (a_ : (List ByteArray)) (left : Int) : Option (Int) :=
 cond (ltI (subI left (a_.length : Int)) 0)
  (some (-1))
  ((iter (ρ := (Int) ⊕ (Int)) (fun s_2 : Int × Int =>
    cond (ltI s_2.2 (a_.length : Int))
     ((at? a_ s_2.2).bind fun e_12 =>
      cond (ltI (subI s_2.1 (e_12.size : Int)) 0)
       (some (.inr (.inl (-1))))
       (some (.inl (subI s_2.1 (e_12.size : Int), addI s_2.2 1))))
     (some (.inr (.inr s_2.1)))) (subI left (a_.length : Int), 0)).bind fun r_18 =>
   Sum.elim (fun r_18 =>
     some r_18)
     (fun r_18 =>
     some r_18) r_18)

noncomputable def laws_szStmt (a_ : TStmt) (left : Int) : Option (Int) :=
 cond (ltI (subI left (a_.a.size : Int)) 0)
  (some (-1))
  (cond (ltI (subI (subI left (a_.a.size : Int)) (a_.b.size : Int)) 0)
   (some (-1))
   (some (subI (subI left (a_.a.size : Int)) (a_.b.size : Int))))

noncomputable def laws_szEdge (a_ : TEdge) (left : Int) : Option (Int) :=
 (laws_szStmt a_.stmt left).bind fun y_1 =>
  cond (ltI y_1 0)
   (some (-1))
   (some y_1)

noncomputable def laws_szEdgeS (a_ : (List TEdge)) (left : Int) : Option (Int) :=
 cond (ltI (subI left (a_.length : Int)) 0)
  (some (-1))
  ((iter (ρ := (Int) ⊕ (Int)) (fun s_2 : Int × Int =>
    cond (ltI s_2.2 (a_.length : Int))
     ((at? a_ s_2.2).bind fun e_12 =>
      (laws_szEdge e_12 s_2.1).bind fun y_17 =>
       cond (ltI y_17 0)
        (some (.inr (.inl (-1))))
        (some (.inl (y_17, addI s_2.2 1))))
     (some (.inr (.inr s_2.1)))) (subI left (a_.length : Int), 0)).bind fun r_21 =>
   Sum.elim (fun r_21 =>
     some r_21)
     (fun r_21 =>
     some r_21) r_21)

noncomputable def laws_szProgram (a_ : TProgram) (left : Int) : Option (Int) :=
 (laws_szStringS a_.vars left).bind fun y_1 =>
  cond (ltI y_1 0)
   (some (-1))
   ((laws_szEdgeS a_.edges y_1).bind fun y_5 =>
    cond (ltI y_5 0)
     (some (-1))
     (some y_5))

noncomputable def laws_szIntS (a_ : (List Int)) (left : Int) : Option (Int) :=
 cond (ltI (subI left (a_.length : Int)) 0)
  (some (-1))
  (some (subI left (a_.length : Int)))

noncomputable def laws_szHeap (a_ : THeap) (left : Int) : Option (Int) :=
 (laws_szIntS a_.vars left).bind fun y_1 =>
  cond (ltI y_1 0)
   (some (-1))
   ((laws_szIntS a_.next y_1).bind fun y_5 =>
    cond (ltI y_5 0)
     (some (-1))
     (some y_5))

noncomputable def laws_toStringS (a_ : (List ByteArray)) : Option ((List ByteArray)) :=
 (roomI (a_.length : Int) 16).bind fun _ =>
  (iter (ρ := (List ByteArray)) (fun s_5 : Int × (List ByteArray) =>
    cond (ltI s_5.1 (a_.length : Int))
     ((at? a_ s_5.1).bind fun e_16 =>
      (at? s_5.2 s_5.1).bind fun e_21 =>
       some (.inl (addI s_5.1 1, s_5.2.set s_5.1.toNat e_16)))
     (some (.inr s_5.2))) (0, List.replicate (a_.length : Int).toNat (ByteArray.empty : ByteArray))).bind fun r_27 =>
   some r_27

noncomputable def laws_toStmt (a_ : TStmt) : Option (TStmt) :=
 some a_

noncomputable def laws_toEdge (a_ : TEdge) : Option (TEdge) :=
 (laws_toStmt a_.stmt).bind fun y_1 =>
  some (⟨a_.from_, a_.to_, y_1⟩ : TEdge)

noncomputable def laws_toEdgeS (a_ : (List TEdge)) : Option ((List TEdge)) :=
 (roomI (a_.length : Int) 56).bind fun _ =>
  (iter (ρ := (List TEdge)) (fun s_5 : Int × (List TEdge) =>
    cond (ltI s_5.1 (a_.length : Int))
     ((at? a_ s_5.1).bind fun e_16 =>
      (laws_toEdge e_16).bind fun y_21 =>
       (at? s_5.2 s_5.1).bind fun e_24 =>
        some (.inl (addI s_5.1 1, s_5.2.set s_5.1.toNat y_21)))
     (some (.inr s_5.2))) (0, List.replicate (a_.length : Int).toNat ((⟨0, 0, (⟨0, ByteArray.empty, ByteArray.empty⟩ : TStmt)⟩ : TEdge) : TEdge))).bind fun r_30 =>
   some r_30

noncomputable def laws_toProgram (a_ : TProgram) : Option (TProgram) :=
 (laws_toStringS a_.vars).bind fun y_1 =>
  (laws_toEdgeS a_.edges).bind fun y_4 =>
   some (⟨y_1, a_.points, y_4⟩ : TProgram)

noncomputable def laws_toIntS (a_ : (List Int)) : Option ((List Int)) :=
 (roomI (a_.length : Int) 8).bind fun _ =>
  (iter (ρ := (List Int)) (fun s_5 : Int × (List Int) =>
    cond (ltI s_5.1 (a_.length : Int))
     ((at? a_ s_5.1).bind fun e_16 =>
      (at? s_5.2 s_5.1).bind fun e_21 =>
       some (.inl (addI s_5.1 1, s_5.2.set s_5.1.toNat e_16)))
     (some (.inr s_5.2))) (0, List.replicate (a_.length : Int).toNat (0 : Int))).bind fun r_27 =>
   some r_27

noncomputable def laws_toHeap (a_ : THeap) : Option (THeap) :=
 (laws_toIntS a_.vars).bind fun y_1 =>
  (laws_toIntS a_.next).bind fun y_4 =>
   some (⟨y_1, y_4⟩ : THeap)

noncomputable def spec_l1In (x_ : Int) (lo : Int) (hi : Int) : Option (Bool) :=
 cond (leI lo x_)
  (some (leI x_ hi))
  (some false)

noncomputable def spec_NamesOf (kind : Int) : Option (Int) :=
 cond (eqI kind 1)
  (some 0)
  (cond (eqI kind 2)
   (some 1)
   (cond (eqI kind 3)
    (some 1)
    (cond (eqI kind 6)
     (some 1)
     (cond (eqI kind 8)
      (some 1)
      (cond (eqI kind 9)
       (some 1)
       (cond (eqI kind 10)
        (some 1)
        (cond (eqI kind 4)
         (some 2)
         (cond (eqI kind 5)
          (some 2)
          (cond (eqI kind 7)
           (some 2)
           (cond (eqI kind 11)
            (some 2)
            (cond (eqI kind 12)
             (some 2)
             (some (-1)))))))))))))

noncomputable def spec_IsName (s : ByteArray) : Option (Bool) :=
 (iter (ρ := (Unit) ⊕ (Unit)) (fun s_1 : Int =>
   cond (ltI s_1 (s.size : Int))
    ((chr? s s_1).bind fun e_10 =>
     cond (ltI e_10 97)
      (some (.inr (.inl ())))
      ((chr? s s_1).bind fun _ =>
       cond (ltI 122 e_10)
        (some (.inr (.inl ())))
        (some (.inl (addI s_1 1)))))
    (some (.inr (.inr ())))) 0).bind fun r_16 =>
  Sum.elim (fun _r_16 =>
    some false)
    (fun _r_16 =>
    (spec_l1In (s.size : Int) 1 2).bind fun y_24 =>
     some y_24) r_16

noncomputable def spec_IndexOf (list : (List ByteArray)) (s : ByteArray) : Option (Int) :=
 (iter (ρ := (Int) ⊕ (Unit)) (fun s_1 : Int =>
   cond (ltI s_1 (list.length : Int))
    ((at? list s_1).bind fun e_11 =>
     cond (eqS e_11 s)
      (some (.inr (.inl s_1)))
      (some (.inl (addI s_1 1))))
    (some (.inr (.inr ())))) 0).bind fun r_17 =>
  Sum.elim (fun r_17 =>
    some r_17)
    (fun _r_17 =>
    some (-1)) r_17

noncomputable def spec_AreVars (list : (List ByteArray)) : Option (Bool) :=
 (iter (ρ := (Unit) ⊕ (Unit)) (fun s_1 : Int =>
   cond (ltI s_1 (list.length : Int))
    ((at? list s_1).bind fun e_10 =>
     (spec_IsName e_10).bind fun y_15 =>
      cond y_15
       ((at? list s_1).bind fun _ =>
        (spec_IndexOf list e_10).bind fun y_24 =>
         cond (neI y_24 s_1)
          (some (.inr (.inl ())))
          (some (.inl (addI s_1 1))))
       (some (.inr (.inl ()))))
    (some (.inr (.inr ())))) 0).bind fun r_28 =>
  Sum.elim (fun _r_28 =>
    some false)
    (fun _r_28 =>
    (spec_l1In (list.length : Int) 1 4).bind fun y_36 =>
     some y_36) r_28

noncomputable def spec_IsStmt (vars : (List ByteArray)) (s : TStmt) : Option (Bool) :=
 (spec_NamesOf s.kind).bind fun y_1 =>
  (spec_AreVars vars).bind fun y_4 =>
   cond y_4
    (cond (ltI y_1 0)
     (some false)
     (cond (ltI y_1 1)
      (cond (neS s.a (⟨#[]⟩ : ByteArray))
       (some false)
       (cond (ltI y_1 2)
        (cond (neS s.b (⟨#[]⟩ : ByteArray))
         (some false)
         (some true))
        ((spec_IndexOf vars s.b).bind fun y_13 =>
         some (leI 0 y_13))))
      (cond (ltI y_1 2)
       (cond (neS s.b (⟨#[]⟩ : ByteArray))
        (some false)
        ((spec_IndexOf vars s.a).bind fun y_18 =>
         cond (leI 0 y_18)
          (some true)
          (some false)))
       ((spec_IndexOf vars s.a).bind fun y_22 =>
        cond (leI 0 y_22)
         ((spec_IndexOf vars s.b).bind fun y_26 =>
          some (leI 0 y_26))
         (some false)))))
    (some false)

noncomputable def spec_IsProgram (p_ : TProgram) : Option (Bool) :=
 (iter (ρ := (Unit) ⊕ (Unit)) (fun s_1 : Int =>
   cond (ltI s_1 (p_.edges.length : Int))
    ((at? p_.edges s_1).bind fun e_11 =>
     (spec_l1In e_11.from_ 0 (subI p_.points 1)).bind fun y_17 =>
      cond y_17
       ((spec_l1In e_11.to_ 0 (subI p_.points 1)).bind fun y_21 =>
        cond y_21
         ((spec_IsStmt p_.vars e_11.stmt).bind fun y_25 =>
          cond y_25
           (some (.inl (addI s_1 1)))
           (some (.inr (.inl ()))))
         (some (.inr (.inl ()))))
       (some (.inr (.inl ()))))
    (some (.inr (.inr ())))) 0).bind fun r_29 =>
  Sum.elim (fun _r_29 =>
    some false)
    (fun _r_29 =>
    (spec_AreVars p_.vars).bind fun y_39 =>
     cond y_39
      ((spec_l1In p_.points 1 12).bind fun y_43 =>
       cond y_43
        (some (leI (p_.edges.length : Int) 24))
        (some false))
      (some false)) r_29

noncomputable def spec_l7Cells (h_ : THeap) : Option (Bool) :=
 (iter (ρ := (Unit) ⊕ (Unit)) (fun s_1 : Int =>
   cond (ltI s_1 (h_.vars.length : Int))
    ((at? h_.vars s_1).bind fun e_11 =>
     (spec_l1In e_11 (-1) (subI (h_.next.length : Int) 1)).bind fun y_16 =>
      cond y_16
       (some (.inl (addI s_1 1)))
       (some (.inr (.inl ()))))
    (some (.inr (.inr ())))) 0).bind fun r_20 =>
  Sum.elim (fun _r_20 =>
    some false)
    (fun _r_20 =>
    (iter (ρ := (Bool) ⊕ (Unit)) (fun s_30 : Int =>
      cond (ltI s_30 (h_.next.length : Int))
       ((at? h_.next s_30).bind fun e_40 =>
        (spec_l1In e_40 (-1) (subI (h_.next.length : Int) 1)).bind fun y_45 =>
         cond y_45
          (some (.inl (addI s_30 1)))
          (some (.inr (.inl false))))
       (some (.inr (.inr ())))) 0).bind fun r_49 =>
     Sum.elim (fun r_49 =>
       some r_49)
       (fun _r_49 =>
       some true) r_49) r_20

noncomputable def spec_Positions (list : (List Int)) (n_ : Int) : Option ((List Int)) :=
 (iter (ρ := (List Int)) (fun s_1 : (List Int) × Int =>
   cond (ltI s_1.2 (list.length : Int))
    ((at? list s_1.2).bind fun e_12 =>
     cond (eqI e_12 n_)
      ((room (s_1.1.length + [s_1.2].length) 8).bind fun _ =>
       some (.inl (s_1.1 ++ [s_1.2], addI s_1.2 1)))
      (some (.inl (s_1.1, addI s_1.2 1))))
    (some (.inr s_1.1))) ([], 0)).bind fun r_20 =>
  some r_20

noncomputable def spec_l7Has (list : (List Int)) (n_ : Int) : Option (Bool) :=
 (spec_Positions list n_).bind fun y_1 =>
  some (ltI 0 (y_1.length : Int))

noncomputable def spec_Followed (h_ : THeap) (cell : Int) : Option ((List Int)) :=
 (iter (ρ := ((List Int)) ⊕ (Unit)) (fun s_1 : Int × (List Int) =>
   cond (neI s_1.1 (-1))
    ((spec_l7Has s_1.2 s_1.1).bind fun y_12 =>
     cond y_12
      (some (.inr (.inl s_1.2)))
      ((spec_l1In s_1.1 0 (subI (h_.next.length : Int) 1)).bind fun y_16 =>
       cond y_16
        ((room (s_1.2.length + [s_1.1].length) 8).bind fun _ =>
         (at? h_.next s_1.1).bind fun e_22 =>
          some (.inl (e_22, s_1.2 ++ [s_1.1])))
        (some (.inr (.inr ())))))
    (some (.inr (.inl s_1.2)))) (cell, [])).bind fun r_27 =>
  Sum.elim (fun r_27 =>
    some r_27)
    (fun _r_27 =>
    some []) r_27

noncomputable def spec_l7Acyclic (h_ : THeap) : Option (Bool) :=
 (iter (ρ := (Unit) ⊕ (Unit)) (fun s_1 : Int =>
   cond (ltI s_1 (h_.next.length : Int))
    ((spec_Followed h_ s_1).bind fun y_11 =>
     cond (eqI (y_11.length : Int) 0)
      (some (.inr (.inl ())))
      ((at? y_11 (subI (y_11.length : Int) 1)).bind fun e_15 =>
       (at? h_.next e_15).bind fun e_20 =>
        cond (neI e_20 (-1))
         (some (.inr (.inl ())))
         (some (.inl (addI s_1 1)))))
    (some (.inr (.inr ())))) 0).bind fun r_26 =>
  Sum.elim (fun _r_26 =>
    some false)
    (fun _r_26 =>
    some true) r_26

noncomputable def spec_l7Order (h_ : THeap) : Option ((List Int)) :=
 (iter (ρ := (List Int)) (fun s_1 : (List Int) × Int =>
   cond (ltI s_1.2 (h_.vars.length : Int))
    ((at? h_.vars s_1.2).bind fun e_12 =>
     (spec_Followed h_ e_12).bind fun y_17 =>
      (iter (ρ := (List Int)) (fun s_20 : Int × (List Int) =>
        cond (ltI s_20.1 (y_17.length : Int))
         ((at? y_17 s_20.1).bind fun e_33 =>
          (spec_l7Has s_20.2 e_33).bind fun y_38 =>
           cond y_38
            (some (.inl (addI s_20.1 1, s_20.2)))
            ((at? y_17 s_20.1).bind fun _ =>
             (room (s_20.2.length + [e_33].length) 8).bind fun _ =>
              some (.inl (addI s_20.1 1, s_20.2 ++ [e_33]))))
         (some (.inr s_20.2))) (0, s_1.1)).bind fun r_49 =>
       some (.inl (r_49, addI s_1.2 1)))
    (some (.inr s_1.1))) ([], 0)).bind fun r_57 =>
  some r_57

noncomputable def spec_IsHeap (vars : Int) (h_ : THeap) : Option (Bool) :=
 (spec_l1In vars 1 4).bind fun y_1 =>
  cond y_1
   (cond (neI (h_.vars.length : Int) vars)
    (some false)
    (cond (ltI 6 (h_.next.length : Int))
     (some false)
     ((spec_l7Cells h_).bind fun y_7 =>
      cond y_7
       ((spec_l7Acyclic h_).bind fun y_11 =>
        cond y_11
         ((spec_l7Order h_).bind fun y_15 =>
          (iter (ρ := (Unit) ⊕ (Unit)) (fun s_18 : Int =>
            cond (ltI s_18 (y_15.length : Int))
             ((at? y_15 s_18).bind fun e_29 =>
              cond (neI e_29 s_18)
               (some (.inr (.inl ())))
               (some (.inl (addI s_18 1))))
             (some (.inr (.inr ())))) 0).bind fun r_35 =>
           Sum.elim (fun _r_35 =>
             some false)
             (fun _r_35 =>
             some (eqI (y_15.length : Int) (h_.next.length : Int))) r_35)
         (some false))
       (some false))))
   (some false)

noncomputable def spec_l7Copy (h_ : THeap) : Option (THeap) :=
 (room (([] : List Int).length + h_.vars.length) 8).bind fun _ =>
  (room (([] : List Int).length + h_.next.length) 8).bind fun _ =>
   some h_

noncomputable def spec_l1Max (a_ : Int) (b_ : Int) : Option (Int) :=
 cond (ltI b_ a_)
  (some a_)
  (some b_)

noncomputable def spec_IsTest (s : TStmt) : Option (Bool) :=
 (spec_l1In s.kind 9 12).bind fun y_1 =>
  some y_1

noncomputable def spec_l8Test (kind : Int) (a_ : Int) (b_ : Int) : Option (Bool) :=
 cond (eqI kind 9)
  (some (eqI a_ (-1)))
  (cond (eqI kind 10)
   (some (neI a_ (-1)))
   (cond (eqI kind 11)
    (some (eqI a_ b_))
    (some (neI a_ b_))))

noncomputable def spec_l8Null (s : TStmt) (h_ : THeap) (a_ : Int) (b_ : Int) : Option (Bool) :=
 cond (eqI s.kind 5)
  ((at? h_.vars b_).bind fun e_2 =>
   some (eqI e_2 (-1)))
  (cond (eqI s.kind 6)
   ((at? h_.vars a_).bind fun e_8 =>
    some (eqI e_8 (-1)))
   (cond (eqI s.kind 7)
    ((at? h_.vars a_).bind fun e_14 =>
     some (eqI e_14 (-1)))
    (cond (eqI s.kind 8)
     ((at? h_.vars a_).bind fun e_20 =>
      some (eqI e_20 (-1)))
     (some false))))

noncomputable def spec_l1Bit (on : Bool) : Option (Int) :=
 cond on
  (some 1)
  (some 0)

noncomputable def spec_l8Without (h_ : THeap) (cell : Int) : Option (THeap) :=
 (iter (ρ := (List Int)) (fun s_1 : Int × (List Int) =>
   cond (ltI s_1.1 (h_.vars.length : Int))
    ((at? h_.vars s_1.1).bind fun e_16 =>
     (at? h_.vars s_1.1).bind fun _ =>
      (spec_l1Bit (ltI cell e_16)).bind fun y_26 =>
       (room (s_1.2.length + [subI e_16 y_26].length) 8).bind fun _ =>
        some (.inl (addI s_1.1 1, s_1.2 ++ [subI e_16 y_26])))
    (some (.inr s_1.2))) (0, [])).bind fun r_31 =>
  (iter (ρ := (List Int)) (fun s_42 : Int × (List Int) =>
    cond (ltI s_42.1 (h_.next.length : Int))
     (cond (neI s_42.1 cell)
      ((at? h_.next s_42.1).bind fun e_58 =>
       (at? h_.next s_42.1).bind fun _ =>
        (spec_l1Bit (ltI cell e_58)).bind fun y_68 =>
         (room (s_42.2.length + [subI e_58 y_68].length) 8).bind fun _ =>
          some (.inl (addI s_42.1 1, s_42.2 ++ [subI e_58 y_68])))
      (some (.inl (addI s_42.1 1, s_42.2))))
     (some (.inr s_42.2))) (0, [])).bind fun r_73 =>
   some (⟨r_31, r_73⟩ : THeap)

noncomputable def spec_l8Free (h_ : THeap) (a_ : Int) : Option (THeap × Int) :=
 (at? h_.vars a_).bind fun e_1 =>
  (spec_Positions h_.vars e_1).bind fun y_6 =>
   cond (ltI 1 (y_6.length : Int))
    (some ((⟨[], []⟩ : THeap), 5))
    ((spec_l7Has h_.next e_1).bind fun y_10 =>
     cond y_10
      (some ((⟨[], []⟩ : THeap), 5))
      ((at? h_.vars a_).bind fun _ =>
       (spec_l8Without (⟨h_.vars.set a_.toNat (-1), h_.next⟩ : THeap) e_1).bind fun y_20 =>
        some (y_20, 0)))

noncomputable def spec_l8Do (s : TStmt) (h_ : THeap) (a_ : Int) (b_ : Int) : Option (THeap × Int) :=
 cond (eqI s.kind 2)
  ((at? h_.vars a_).bind fun e_2 =>
   some ((⟨h_.vars.set a_.toNat (-1), h_.next⟩ : THeap), 0))
  (cond (eqI s.kind 3)
   ((at? h_.vars a_).bind fun e_9 =>
    (room (h_.next.length + [(-1)].length) 8).bind fun _ =>
     some ((⟨h_.vars.set a_.toNat (h_.next.length : Int), h_.next ++ [(-1)]⟩ : THeap), 0))
   (cond (eqI s.kind 4)
    ((at? h_.vars b_).bind fun e_18 =>
     (at? h_.vars a_).bind fun e_23 =>
      some ((⟨h_.vars.set a_.toNat e_18, h_.next⟩ : THeap), 0))
    (cond (eqI s.kind 5)
     ((at? h_.vars b_).bind fun e_30 =>
      (at? h_.next e_30).bind fun e_35 =>
       (at? h_.vars a_).bind fun e_40 =>
        some ((⟨h_.vars.set a_.toNat e_35, h_.next⟩ : THeap), 0))
     (cond (eqI s.kind 6)
      ((at? h_.vars a_).bind fun e_47 =>
       (at? h_.next e_47).bind fun e_52 =>
        some ((⟨h_.vars, h_.next.set e_47.toNat (-1)⟩ : THeap), 0))
      (cond (eqI s.kind 7)
       ((at? h_.vars b_).bind fun e_59 =>
        (spec_Followed h_ e_59).bind fun y_64 =>
         (at? h_.vars a_).bind fun e_67 =>
          (spec_l7Has y_64 e_67).bind fun y_72 =>
           cond y_72
            (some ((⟨[], []⟩ : THeap), 3))
            ((at? h_.vars a_).bind fun _ =>
             (at? h_.vars b_).bind fun _ =>
              (at? h_.next e_67).bind fun e_86 =>
               some ((⟨h_.vars, h_.next.set e_67.toNat e_59⟩ : THeap), 0)))
       (cond (eqI s.kind 8)
        ((spec_l8Free h_ a_).bind fun y_95 =>
         some (y_95.1, y_95.2))
        (some (h_, 0))))))))

noncomputable def spec_HasLeak (h_ : THeap) : Option (Bool) :=
 (spec_l7Order h_).bind fun y_1 =>
  some (ltI (y_1.length : Int) (h_.next.length : Int))

noncomputable def spec_l7New (order : (List Int)) (cell : Int) : Option (Int) :=
 (spec_Positions order cell).bind fun y_1 =>
  cond (eqI (y_1.length : Int) 0)
   (some (-1))
   ((at? y_1 0).bind fun e_5 =>
    some e_5)

noncomputable def spec_CanonHeap (h_ : THeap) : Option (THeap) :=
 (spec_l7Cells h_).bind fun y_1 =>
  cond y_1
   ((spec_l7Order h_).bind fun y_5 =>
    (iter (ρ := (List Int)) (fun s_8 : Int × (List Int) =>
      cond (ltI s_8.1 (h_.vars.length : Int))
       ((at? h_.vars s_8.1).bind fun e_23 =>
        (spec_l7New y_5 e_23).bind fun y_28 =>
         (room (s_8.2.length + [y_28].length) 8).bind fun _ =>
          some (.inl (addI s_8.1 1, s_8.2 ++ [y_28])))
       (some (.inr s_8.2))) (0, [])).bind fun r_33 =>
     (iter (ρ := (List Int)) (fun s_44 : Int × (List Int) =>
       cond (ltI s_44.1 (y_5.length : Int))
        ((at? y_5 s_44.1).bind fun e_59 =>
         (at? h_.next e_59).bind fun e_64 =>
          (spec_l7New y_5 e_64).bind fun y_69 =>
           (room (s_44.2.length + [y_69].length) 8).bind fun _ =>
            some (.inl (addI s_44.1 1, s_44.2 ++ [y_69])))
        (some (.inr s_44.2))) (0, [])).bind fun r_74 =>
      some (⟨r_33, r_74⟩ : THeap))
   (some (⟨[], []⟩ : THeap))

noncomputable def spec_Exec (vars : (List ByteArray)) (s : TStmt) (h_ : THeap) : Option (THeap × Int) :=
 (show Option (Bool) from
  (spec_IsStmt vars s).bind fun y_13 =>
   cond y_13
    ((spec_IsHeap (vars.length : Int) h_).bind fun y_17 =>
     some (notB y_17))
    (some true)).bind fun r_1 =>
  cond r_1
   (some ((⟨[], []⟩ : THeap), 7))
   ((spec_IndexOf vars s.a).bind fun y_21 =>
    (spec_l1Max 0 y_21).bind fun y_24 =>
     (spec_IndexOf vars s.b).bind fun y_27 =>
      (spec_l1Max 0 y_27).bind fun y_30 =>
       (show Option (Bool) from
        (spec_IsTest s).bind fun y_46 =>
         cond y_46
          ((at? h_.vars y_24).bind fun e_50 =>
           (at? h_.vars y_30).bind fun e_55 =>
            (spec_l8Test s.kind e_50 e_55).bind fun y_60 =>
             some (notB y_60))
          (some false)).bind fun r_33 =>
        cond r_33
         (some ((⟨[], []⟩ : THeap), 1))
         ((spec_l8Null s h_ y_24 y_30).bind fun y_64 =>
          cond y_64
           (some ((⟨[], []⟩ : THeap), 2))
           ((show Option (Bool) from
            cond (eqI s.kind 3)
             (some (eqI (h_.next.length : Int) 6))
             (some false)).bind fun r_68 =>
            cond r_68
             (some ((⟨[], []⟩ : THeap), 6))
             ((spec_l7Copy h_).bind fun y_83 =>
              (spec_l8Do s y_83 y_24 y_30).bind fun y_88 =>
               cond (neI y_88.2 0)
                (some ((⟨[], []⟩ : THeap), y_88.2))
                ((spec_HasLeak y_88.1).bind fun y_93 =>
                 cond y_93
                  (some ((⟨[], []⟩ : THeap), 4))
                  ((spec_CanonHeap y_88.1).bind fun y_97 =>
                   some (y_97, 0)))))))

noncomputable def spec_Follow (p_ : TProgram) (h_ : THeap) (edges : (List Int)) : Option (TState × Int × Int) :=
 (spec_IsProgram p_).bind fun y_1 =>
  cond y_1
   ((spec_IsHeap (p_.vars.length : Int) h_).bind fun y_5 =>
    cond y_5
     ((spec_l7Copy h_).bind fun y_9 =>
      (iter (ρ := (Int × Int × Int × (List Int) × (List Int)) ⊕ (Int × (List Int) × (List Int))) (fun s_12 : Int × Int × (List Int) × (List Int) =>
        cond (ltI s_12.1 (edges.length : Int))
         ((at? edges s_12.1).bind fun e_28 =>
          (spec_l1In e_28 0 (subI (p_.edges.length : Int) 1)).bind fun y_33 =>
           cond y_33
            ((at? edges s_12.1).bind fun _ =>
             (at? p_.edges e_28).bind fun e_42 =>
              cond (neI e_42.from_ s_12.2.1)
               (some (.inr (.inl (7, s_12.1, s_12.2.1, s_12.2.2.1, s_12.2.2.2))))
               ((at? edges s_12.1).bind fun _ =>
                (at? p_.edges e_28).bind fun _ =>
                 (spec_Exec p_.vars e_42.stmt (⟨s_12.2.2.1, s_12.2.2.2⟩ : THeap)).bind fun y_59 =>
                  cond (neI y_59.2 0)
                   (some (.inr (.inl (y_59.2, s_12.1, s_12.2.1, s_12.2.2.1, s_12.2.2.2))))
                   (some (.inl (addI s_12.1 1, e_42.to_, y_59.1.vars, y_59.1.next)))))
            (some (.inr (.inl (7, s_12.1, s_12.2.1, s_12.2.2.1, s_12.2.2.2)))))
         (some (.inr (.inr (s_12.2.1, s_12.2.2.1, s_12.2.2.2))))) (0, 0, y_9.vars, y_9.next)).bind fun r_64 =>
       Sum.elim (fun r_64 =>
         some ((⟨r_64.2.2.1, (⟨r_64.2.2.2.1, r_64.2.2.2.2⟩ : THeap)⟩ : TState), r_64.1, r_64.2.1))
         (fun r_64 =>
         some ((⟨r_64.1, (⟨r_64.2.1, r_64.2.2⟩ : THeap)⟩ : TState), 0, (edges.length : Int))) r_64)
     (some ((⟨0, (⟨[], []⟩ : THeap)⟩ : TState), 7, 0)))
   (some ((⟨0, (⟨[], []⟩ : THeap)⟩ : TState), 7, 0))

noncomputable def impl_within (n_ : Int) (low : Int) (high : Int) : Option (Bool) :=
 cond (leI low n_)
  (some (leI n_ high))
  (some false)

noncomputable def impl_IsName (s : ByteArray) : Option (Bool) :=
 (iter (ρ := (Unit) ⊕ (Unit)) (fun s_1 : Int =>
   cond (ltI s_1 (s.size : Int))
    ((chr? s s_1).bind fun e_11 =>
     cond (ltI e_11 97)
      (some (.inr (.inl ())))
      ((chr? s s_1).bind fun _ =>
       cond (ltI 122 e_11)
        (some (.inr (.inl ())))
        (some (.inl (addI s_1 1)))))
    (some (.inr (.inr ())))) 0).bind fun r_17 =>
  Sum.elim (fun _r_17 =>
    some false)
    (fun _r_17 =>
    (impl_within (s.size : Int) 1 2).bind fun y_25 =>
     some y_25) r_17

noncomputable def slices_Index_string (s : (List ByteArray)) (v : ByteArray) : Option (Int) :=
 (iter (ρ := (Int) ⊕ (Unit)) (fun s_1 : Int =>
   cond (ltI s_1 (s.length : Int))
    ((at? s s_1).bind fun e_12 =>
     cond (eqS v e_12)
      (some (.inr (.inl s_1)))
      (some (.inl (addI s_1 1))))
    (some (.inr (.inr ())))) 0).bind fun r_18 =>
  Sum.elim (fun r_18 =>
    some r_18)
    (fun _r_18 =>
    some (-1)) r_18

noncomputable def impl_IndexOf (list : (List ByteArray)) (s : ByteArray) : Option (Int) :=
 (slices_Index_string list s).bind fun y_1 =>
  some y_1

noncomputable def impl_AreVars (list : (List ByteArray)) : Option (Bool) :=
 (iter (ρ := (Unit) ⊕ (Unit)) (fun s_1 : Int =>
   cond (ltI s_1 (list.length : Int))
    ((at? list s_1).bind fun e_12 =>
     (impl_IsName e_12).bind fun y_17 =>
      cond y_17
       ((impl_IndexOf list e_12).bind fun y_21 =>
        cond (neI y_21 s_1)
         (some (.inr (.inl ())))
         (some (.inl (addI s_1 1))))
       (some (.inr (.inl ()))))
    (some (.inr (.inr ())))) 0).bind fun r_25 =>
  Sum.elim (fun _r_25 =>
    some false)
    (fun _r_25 =>
    (impl_within (list.length : Int) 1 4).bind fun y_33 =>
     some y_33) r_25

noncomputable def slices_Contains_string (s : (List ByteArray)) (v : ByteArray) : Option (Bool) :=
 (slices_Index_string s v).bind fun y_1 =>
  some (leI 0 y_1)

noncomputable def impl_NamesOf (kind : Int) : Option (Int) :=
 (impl_within kind 1 12).bind fun y_1 =>
  cond y_1
   ((at? [0, 1, 1, 2, 2, 1, 2, 1, 1, 1, 2, 2] (subI kind 1)).bind fun e_5 =>
    some e_5)
   (some (-1))

noncomputable def impl_Stmt_hasNames (s : TStmt) (accept : (ByteArray → Option (Bool))) : Option (Bool) :=
 (impl_NamesOf s.kind).bind fun y_1 =>
  (iter (ρ := (Unit) ⊕ (Unit)) (fun s_4 : Int =>
    cond (ltI s_4 ([s.a, s.b].length : Int))
     ((at? [s.a, s.b] s_4).bind fun e_19 =>
      cond (ltI s_4 y_1)
       ((accept e_19).bind fun y_25 =>
        cond y_25
         (cond (leI y_1 s_4)
          (cond (neS e_19 (⟨#[]⟩ : ByteArray))
           (some (.inr (.inl ())))
           (some (.inl (addI s_4 1))))
          (some (.inl (addI s_4 1))))
         (some (.inr (.inl ()))))
       (cond (leI y_1 s_4)
        (cond (neS e_19 (⟨#[]⟩ : ByteArray))
         (some (.inr (.inl ())))
         (some (.inl (addI s_4 1))))
        (some (.inl (addI s_4 1)))))
     (some (.inr (.inr ())))) 0).bind fun r_32 =>
   Sum.elim (fun _r_32 =>
     some false)
     (fun _r_32 =>
     some (leI 0 y_1)) r_32

noncomputable def impl_IsStmt_1 (name : ByteArray) (c0 : (List ByteArray)) : Option (Bool) :=
 (slices_Contains_string c0 name).bind fun y_1 =>
  some y_1

noncomputable def impl_IsStmt (vars : (List ByteArray)) (s : TStmt) : Option (Bool) :=
 (impl_AreVars vars).bind fun y_1 =>
  cond y_1
   ((impl_Stmt_hasNames s (fun x0 => impl_IsStmt_1 x0 vars)).bind fun y_5 =>
    some y_5)
   (some false)

noncomputable def slices_IndexFunc_Edge (s : (List TEdge)) (f_ : (TEdge → Option (Bool))) : Option (Int) :=
 (iter (ρ := (Int) ⊕ (Unit)) (fun s_1 : Int =>
   cond (ltI s_1 (s.length : Int))
    ((at? s s_1).bind fun e_12 =>
     (f_ e_12).bind fun y_17 =>
      cond y_17
       (some (.inr (.inl s_1)))
       (some (.inl (addI s_1 1))))
    (some (.inr (.inr ())))) 0).bind fun r_20 =>
  Sum.elim (fun r_20 =>
    some r_20)
    (fun _r_20 =>
    some (-1)) r_20

noncomputable def slices_ContainsFunc_Edge (s : (List TEdge)) (f_ : (TEdge → Option (Bool))) : Option (Bool) :=
 (slices_IndexFunc_Edge s f_).bind fun y_1 =>
  some (leI 0 y_1)

noncomputable def impl_IsProgram_1 (e : TEdge) (c0 : TProgram) : Option (Bool) :=
 (impl_within e.from_ 0 (subI c0.points 1)).bind fun y_1 =>
  cond y_1
   ((impl_within e.to_ 0 (subI c0.points 1)).bind fun y_5 =>
    cond y_5
     ((impl_IsStmt c0.vars e.stmt).bind fun y_9 =>
      some (notB y_9))
     (some true))
   (some true)

noncomputable def impl_IsProgram (p_ : TProgram) : Option (Bool) :=
 (impl_AreVars p_.vars).bind fun y_1 =>
  cond y_1
   ((impl_within p_.points 1 12).bind fun y_5 =>
    cond y_5
     (cond (ltI 24 (p_.edges.length : Int))
      (some false)
      ((slices_ContainsFunc_Edge p_.edges (fun x0 => impl_IsProgram_1 x0 p_)).bind fun y_10 =>
       some (notB y_10)))
     (some false))
   (some false)

noncomputable def impl_Heap_isCell (h_ : THeap) (n_ : Int) : Option (Bool) :=
 (impl_within n_ 0 (subI (h_.next.length : Int) 1)).bind fun y_1 =>
  some y_1

noncomputable def slices_IndexFunc_int (s : (List Int)) (f_ : (Int → Option (Bool))) : Option (Int) :=
 (iter (ρ := (Int) ⊕ (Unit)) (fun s_1 : Int =>
   cond (ltI s_1 (s.length : Int))
    ((at? s s_1).bind fun e_12 =>
     (f_ e_12).bind fun y_17 =>
      cond y_17
       (some (.inr (.inl s_1)))
       (some (.inl (addI s_1 1))))
    (some (.inr (.inr ())))) 0).bind fun r_20 =>
  Sum.elim (fun r_20 =>
    some r_20)
    (fun _r_20 =>
    some (-1)) r_20

noncomputable def slices_ContainsFunc_int (s : (List Int)) (f_ : (Int → Option (Bool))) : Option (Bool) :=
 (slices_IndexFunc_int s f_).bind fun y_1 =>
  some (leI 0 y_1)

noncomputable def impl_Heap_areCells_1 (n_ : Int) (c0 : THeap) : Option (Bool) :=
 cond (neI n_ (-1))
  ((impl_Heap_isCell c0 n_).bind fun y_2 =>
   some (notB y_2))
  (some false)

noncomputable def impl_Heap_areCells (h_ : THeap) : Option (Bool) :=
 (slices_Concat_int [h_.vars, h_.next]).bind fun y_1 =>
  (slices_ContainsFunc_int y_1 (fun x0 => impl_Heap_areCells_1 x0 h_)).bind fun y_4 =>
   some (notB y_4)

noncomputable def slices_Index_int (s : (List Int)) (v : Int) : Option (Int) :=
 (iter (ρ := (Int) ⊕ (Unit)) (fun s_1 : Int =>
   cond (ltI s_1 (s.length : Int))
    ((at? s s_1).bind fun e_12 =>
     cond (eqI v e_12)
      (some (.inr (.inl s_1)))
      (some (.inl (addI s_1 1))))
    (some (.inr (.inr ())))) 0).bind fun r_18 =>
  Sum.elim (fun r_18 =>
    some r_18)
    (fun _r_18 =>
    some (-1)) r_18

noncomputable def zaf (s : (List Int)) (v : Int) : Option (Bool) :=
 (slices_Index_int s v).bind fun y_1 =>
  some (leI 0 y_1)

noncomputable def impl_Followed (h_ : THeap) (cell : Int) : Option ((List Int)) :=
 (iter (ρ := ((List Int)) ⊕ (Unit)) (fun s_1 : (List Int) × Int =>
   cond (neI s_1.2 (-1))
    ((impl_Heap_isCell h_ s_1.2).bind fun y_13 =>
     cond y_13
      ((zaf s_1.1 s_1.2).bind fun y_17 =>
       cond y_17
        (some (.inr (.inl s_1.1)))
        ((room (s_1.1.length + [s_1.2].length) 8).bind fun _ =>
         (at? h_.next s_1.2).bind fun e_23 =>
          some (.inl (s_1.1 ++ [s_1.2], e_23))))
      (some (.inr (.inr ()))))
    (cond (eqI cell (-1))
     ((impl_Heap_isCell h_ s_1.2).bind fun y_29 =>
      cond y_29
       ((zaf s_1.1 s_1.2).bind fun y_33 =>
        cond y_33
         (some (.inr (.inl s_1.1)))
         ((room (s_1.1.length + [s_1.2].length) 8).bind fun _ =>
          (at? h_.next s_1.2).bind fun e_39 =>
           some (.inl (s_1.1 ++ [s_1.2], e_39))))
       (some (.inr (.inr ()))))
     (some (.inr (.inl s_1.1))))) ([], cell)).bind fun r_44 =>
  Sum.elim (fun r_44 =>
    some r_44)
    (fun _r_44 =>
    some []) r_44

noncomputable def impl_Heap_isCyclic (h_ : THeap) : Option (Bool) :=
 (iter (ρ := (Bool) ⊕ (Unit)) (fun s_1 : Int =>
   cond (ltI s_1 (h_.next.length : Int))
    ((at? h_.next s_1).bind fun e_12 =>
     (impl_Followed h_ e_12).bind fun y_17 =>
      (zaf y_17 s_1).bind fun y_20 =>
       cond y_20
        (some (.inr (.inl true)))
        (some (.inl (addI s_1 1))))
    (some (.inr (.inr ())))) 0).bind fun r_24 =>
  Sum.elim (fun r_24 =>
    some r_24)
    (fun _r_24 =>
    some false) r_24

noncomputable def impl_Heap_met (h_ : THeap) : Option ((List Int)) :=
 (iter (ρ := (List Int)) (fun s_1 : (List Int) × Int =>
   cond (ltI s_1.2 (h_.vars.length : Int))
    ((at? h_.vars s_1.2).bind fun e_14 =>
     (impl_Followed h_ e_14).bind fun y_19 =>
      (iter (ρ := (List Int)) (fun s_22 : Int × (List Int) =>
        cond (ltI s_22.1 (y_19.length : Int))
         ((at? y_19 s_22.1).bind fun e_38 =>
          (zaf s_22.2 e_38).bind fun y_43 =>
           cond y_43
            (some (.inl (addI s_22.1 1, s_22.2)))
            ((room (s_22.2.length + [e_38].length) 8).bind fun _ =>
             some (.inl (addI s_22.1 1, s_22.2 ++ [e_38]))))
         (some (.inr s_22.2))) (0, s_1.1)).bind fun r_49 =>
       some (.inl (r_49, addI s_1.2 1)))
    (some (.inr s_1.1))) ([], 0)).bind fun r_59 =>
  some r_59

noncomputable def impl_IsHeap (vars : Int) (h_ : THeap) : Option (Bool) :=
 (impl_within vars 1 4).bind fun y_1 =>
  cond y_1
   (cond (neI (h_.vars.length : Int) vars)
    (some false)
    (cond (ltI 6 (h_.next.length : Int))
     (some false)
     ((impl_Heap_areCells h_).bind fun y_7 =>
      cond y_7
       ((impl_Heap_isCyclic h_).bind fun y_11 =>
        cond y_11
         (some false)
         ((impl_Heap_met h_).bind fun y_15 =>
          (iter (ρ := (Unit) ⊕ (Unit)) (fun s_18 : Int =>
            cond (ltI s_18 (y_15.length : Int))
             ((at? y_15 s_18).bind fun e_31 =>
              cond (neI e_31 s_18)
               (some (.inr (.inl ())))
               (some (.inl (addI s_18 1))))
             (some (.inr (.inr ())))) 0).bind fun r_37 =>
           Sum.elim (fun _r_37 =>
             some false)
             (fun _r_37 =>
             some (eqI (y_15.length : Int) (h_.next.length : Int))) r_37))
       (some false))))
   (some false)

noncomputable def impl_Heap_own (h_ : THeap) : Option (THeap) :=
 (slices_Clone_int h_.vars).bind fun y_1 =>
  (slices_Clone_int h_.next).bind fun y_4 =>
   some (⟨y_1, y_4⟩ : THeap)

noncomputable def impl_Heap_at (h_ : THeap) (vars : (List ByteArray)) (name : ByteArray) : Option (Int) :=
 (impl_IndexOf vars name).bind fun y_1 =>
  cond (leI 0 y_1)
   ((at? h_.vars y_1).bind fun e_5 =>
    some e_5)
   (some (-1))

noncomputable def impl_needs (kind : Int) (a_ : Int) (b_ : Int) : Option (Int × Bool) :=
 cond (eqI kind 5)
  (some (b_, true))
  (cond (eqI kind 6)
   (some (a_, true))
   (cond (eqI kind 7)
    (some (a_, true))
    (cond (eqI kind 8)
     (some (a_, true))
     (some (0, false)))))

noncomputable def impl_IsTest (s : TStmt) : Option (Bool) :=
 (impl_within s.kind 9 12).bind fun y_1 =>
  some y_1

noncomputable def impl_holds (kind : Int) (a_ : Int) (b_ : Int) : Option (Bool) :=
 cond (eqI kind 9)
  (some (eqI a_ (-1)))
  (cond (eqI kind 10)
   (some (neI a_ (-1)))
   (cond (eqI kind 11)
    (some (eqI a_ b_))
    (some (neI a_ b_))))

noncomputable def impl_Positions (list : (List Int)) (n_ : Int) : Option ((List Int)) :=
 (iter (ρ := (List Int)) (fun s_1 : (List Int) × Int =>
   cond (ltI s_1.2 (list.length : Int))
    ((at? list s_1.2).bind fun e_13 =>
     cond (eqI e_13 n_)
      ((room (s_1.1.length + [s_1.2].length) 8).bind fun _ =>
       some (.inl (s_1.1 ++ [s_1.2], addI s_1.2 1)))
      (some (.inl (s_1.1, addI s_1.2 1))))
    (some (.inr s_1.1))) ([], 0)).bind fun r_21 =>
  some r_21

noncomputable def zal (h_ : THeap) (s : TStmt) (own : Int) (a_ : Int) (b_ : Int) : Option (THeap) :=
 (slices_Clone_int h_.vars).bind fun y_1 =>
  (slices_Clone_int h_.next).bind fun y_4 =>
   cond (eqI s.kind 2)
    ((at? y_1 own).bind fun e_8 =>
     some (⟨y_1.set own.toNat (-1), y_4⟩ : THeap))
    (cond (eqI s.kind 3)
     ((at? y_1 own).bind fun e_15 =>
      (room (y_4.length + [(-1)].length) 8).bind fun _ =>
       some (⟨y_1.set own.toNat (y_4.length : Int), y_4 ++ [(-1)]⟩ : THeap))
     (cond (eqI s.kind 4)
      ((at? y_1 own).bind fun e_24 =>
       some (⟨y_1.set own.toNat b_, y_4⟩ : THeap))
      (cond (eqI s.kind 5)
       ((at? h_.next b_).bind fun e_31 =>
        (at? y_1 own).bind fun e_36 =>
         some (⟨y_1.set own.toNat e_31, y_4⟩ : THeap))
       (cond (eqI s.kind 6)
        ((at? y_4 a_).bind fun e_43 =>
         some (⟨y_1, y_4.set a_.toNat (-1)⟩ : THeap))
        (cond (eqI s.kind 7)
         ((at? y_4 a_).bind fun e_50 =>
          some (⟨y_1, y_4.set a_.toNat b_⟩ : THeap))
         (cond (eqI s.kind 8)
          ((at? y_1 own).bind fun e_57 =>
           (impl_Heap_without (⟨y_1.set own.toNat (-1), y_4⟩ : THeap) a_).bind fun y_65 =>
            some y_65)
          (some (⟨y_1, y_4⟩ : THeap))))))))

noncomputable def impl_HasLeak (h_ : THeap) : Option (Bool) :=
 (impl_Heap_met h_).bind fun y_1 =>
  some (ltI (y_1.length : Int) (h_.next.length : Int))

noncomputable def impl_CanonHeap_1 (c : Int) (c0 : (List Int)) : Option (Int) :=
 (slices_Index_int c0 c).bind fun y_1 =>
  some y_1

noncomputable def impl_CanonHeap (h_ : THeap) : Option (THeap) :=
 (impl_Heap_areCells h_).bind fun y_1 =>
  cond y_1
   ((impl_Heap_met h_).bind fun y_5 =>
    (iter (ρ := (List Int)) (fun s_8 : Int × (List Int) =>
      cond (ltI s_8.1 (h_.vars.length : Int))
       ((at? h_.vars s_8.1).bind fun e_28 =>
        (impl_CanonHeap_1 e_28 y_5).bind fun y_33 =>
         (room (s_8.2.length + [y_33].length) 8).bind fun _ =>
          some (.inl (addI s_8.1 1, s_8.2 ++ [y_33])))
       (some (.inr s_8.2))) (0, [])).bind fun r_37 =>
     (iter (ρ := (List Int)) (fun s_51 : Int × (List Int) =>
       cond (ltI s_51.1 (y_5.length : Int))
        ((at? y_5 s_51.1).bind fun e_70 =>
         (at? h_.next e_70).bind fun e_75 =>
          (impl_CanonHeap_1 e_75 y_5).bind fun y_80 =>
           (room (s_51.2.length + [y_80].length) 8).bind fun _ =>
            some (.inl (addI s_51.1 1, s_51.2 ++ [y_80])))
        (some (.inr s_51.2))) (0, [])).bind fun r_84 =>
      some (⟨r_37, r_84⟩ : THeap))
   (some (⟨[], []⟩ : THeap))

noncomputable def impl_Exec (vars : (List ByteArray)) (s : TStmt) (h_ : THeap) : Option (THeap × Int) :=
 (show Option (Bool) from
  (impl_IsStmt vars s).bind fun y_14 =>
   cond y_14
    ((impl_IsHeap (vars.length : Int) h_).bind fun y_18 =>
     some (notB y_18))
    (some true)).bind fun r_1 =>
  cond r_1
   (some ((⟨[], []⟩ : THeap), 7))
   ((impl_IndexOf vars s.a).bind fun y_22 =>
    (impl_Heap_at h_ vars s.a).bind fun y_25 =>
     (impl_Heap_at h_ vars s.b).bind fun y_28 =>
      (impl_needs s.kind y_25 y_28).bind fun y_31 =>
       (show Option (Bool) from
        (impl_IsTest s).bind fun y_51 =>
         cond y_51
          ((impl_holds s.kind y_25 y_28).bind fun y_55 =>
           some (notB y_55))
          (some false)).bind fun r_34 =>
        cond r_34
         (some ((⟨[], []⟩ : THeap), 1))
         ((show Option (Bool) from
          cond y_31.2
           (some (eqI y_31.1 (-1)))
           (some false)).bind fun r_59 =>
          cond r_59
           (some ((⟨[], []⟩ : THeap), 2))
           ((show Option (Bool) from
            cond (eqI s.kind 3)
             (some (eqI (h_.next.length : Int) 6))
             (some false)).bind fun r_76 =>
            cond r_76
             (some ((⟨[], []⟩ : THeap), 6))
             ((show Option (Bool) from
              cond (eqI s.kind 8)
               ((impl_Positions h_.vars y_25).bind fun y_109 =>
                cond (ltI 1 (y_109.length : Int))
                 (some true)
                 ((zaf h_.next y_25).bind fun y_113 =>
                  some y_113))
               (some false)).bind fun r_93 =>
              cond r_93
               (some ((⟨[], []⟩ : THeap), 5))
               ((show Option (Bool) from
                cond (eqI s.kind 7)
                 ((impl_Followed h_ y_28).bind fun y_133 =>
                  (zaf y_133 y_25).bind fun y_136 =>
                   some y_136)
                 (some false)).bind fun r_117 =>
                cond r_117
                 (some ((⟨[], []⟩ : THeap), 3))
                 ((zal h_ s y_22 y_25 y_28).bind fun y_140 =>
                  (impl_HasLeak y_140).bind fun y_144 =>
                   cond y_144
                    (some ((⟨[], []⟩ : THeap), 4))
                    ((impl_CanonHeap y_140).bind fun y_148 =>
                     some (y_148, 0))))))))

noncomputable def impl_Follow (p_ : TProgram) (h_ : THeap) (edges : (List Int)) : Option (TState × Int × Int) :=
 (impl_IsProgram p_).bind fun y_1 =>
  cond y_1
   ((impl_IsHeap (p_.vars.length : Int) h_).bind fun y_5 =>
    cond y_5
     ((impl_Heap_own h_).bind fun y_9 =>
      (iter (ρ := (Int × Int × Int × (List Int) × (List Int)) ⊕ (Int × (List Int) × (List Int))) (fun s_12 : Int × Int × (List Int) × (List Int) =>
        cond (ltI s_12.1 (edges.length : Int))
         ((at? edges s_12.1).bind fun e_30 =>
          (impl_within e_30 0 (subI (p_.edges.length : Int) 1)).bind fun y_35 =>
           cond y_35
            ((at? p_.edges e_30).bind fun e_39 =>
             cond (neI e_39.from_ s_12.2.1)
              (some (.inr (.inl (7, s_12.1, s_12.2.1, s_12.2.2.1, s_12.2.2.2))))
              ((at? p_.edges e_30).bind fun _ =>
               (impl_Exec p_.vars e_39.stmt (⟨s_12.2.2.1, s_12.2.2.2⟩ : THeap)).bind fun y_50 =>
                cond (neI y_50.2 0)
                 (some (.inr (.inl (y_50.2, s_12.1, s_12.2.1, s_12.2.2.1, s_12.2.2.2))))
                 ((at? p_.edges e_30).bind fun _ =>
                  some (.inl (addI s_12.1 1, e_39.to_, y_50.1.vars, y_50.1.next)))))
            (some (.inr (.inl (7, s_12.1, s_12.2.1, s_12.2.2.1, s_12.2.2.2)))))
         (some (.inr (.inr (s_12.2.1, s_12.2.2.1, s_12.2.2.2))))) (0, 0, y_9.vars, y_9.next)).bind fun r_60 =>
       Sum.elim (fun r_60 =>
         some ((⟨r_60.2.2.1, (⟨r_60.2.2.2.1, r_60.2.2.2.2⟩ : THeap)⟩ : TState), r_60.1, r_60.2.1))
         (fun r_60 =>
         some ((⟨r_60.1, (⟨r_60.2.1, r_60.2.2⟩ : THeap)⟩ : TState), 0, (edges.length : Int))) r_60)
     (some ((⟨0, (⟨[], []⟩ : THeap)⟩ : TState), 7, 0)))
   (some ((⟨0, (⟨[], []⟩ : THeap)⟩ : TState), 7, 0))

noncomputable def laws_eqIntS (a_ : (List Int)) (b_ : (List Int)) : Option (Bool) :=
 cond (neI (a_.length : Int) (b_.length : Int))
  (some false)
  ((iter (ρ := (Unit) ⊕ (Unit)) (fun s_2 : Int =>
    cond (ltI s_2 (a_.length : Int))
     ((at? a_ s_2).bind fun e_12 =>
      (at? b_ s_2).bind fun e_17 =>
       cond (neI e_12 e_17)
        (some (.inr (.inl ())))
        (some (.inl (addI s_2 1))))
     (some (.inr (.inr ())))) 0).bind fun r_23 =>
   Sum.elim (fun _r_23 =>
     some false)
     (fun _r_23 =>
     some true) r_23)

noncomputable def laws_eqHeap (a_ : THeap) (b_ : THeap) : Option (Bool) :=
 (laws_eqIntS a_.vars b_.vars).bind fun y_1 =>
  cond y_1
   ((laws_eqIntS a_.next b_.next).bind fun y_5 =>
    cond y_5
     (some true)
     (some false))
   (some false)

noncomputable def laws_eqState (a_ : TState) (b_ : TState) : Option (Bool) :=
 cond (neI a_.point b_.point)
  (some false)
  ((laws_eqHeap a_.heap b_.heap).bind fun y_2 =>
   cond y_2
    (some true)
    (some false))

noncomputable def laws_eqStringS (a_ : (List ByteArray)) (b_ : (List ByteArray)) : Option (Bool) :=
 cond (neI (a_.length : Int) (b_.length : Int))
  (some false)
  ((iter (ρ := (Unit) ⊕ (Unit)) (fun s_2 : Int =>
    cond (ltI s_2 (a_.length : Int))
     ((at? a_ s_2).bind fun e_12 =>
      (at? b_ s_2).bind fun e_17 =>
       cond (neS e_12 e_17)
        (some (.inr (.inl ())))
        (some (.inl (addI s_2 1))))
     (some (.inr (.inr ())))) 0).bind fun r_23 =>
   Sum.elim (fun _r_23 =>
     some false)
     (fun _r_23 =>
     some true) r_23)

noncomputable def laws_eqStmt (a_ : TStmt) (b_ : TStmt) : Option (Bool) :=
 cond (neI a_.kind b_.kind)
  (some false)
  (cond (neS a_.a b_.a)
   (some false)
   (cond (neS a_.b b_.b)
    (some false)
    (some true)))

noncomputable def laws_eqEdge (a_ : TEdge) (b_ : TEdge) : Option (Bool) :=
 cond (neI a_.from_ b_.from_)
  (some false)
  (cond (neI a_.to_ b_.to_)
   (some false)
   ((laws_eqStmt a_.stmt b_.stmt).bind fun y_3 =>
    cond y_3
     (some true)
     (some false)))

noncomputable def laws_eqEdgeS (a_ : (List TEdge)) (b_ : (List TEdge)) : Option (Bool) :=
 cond (neI (a_.length : Int) (b_.length : Int))
  (some false)
  ((iter (ρ := (Unit) ⊕ (Unit)) (fun s_2 : Int =>
    cond (ltI s_2 (a_.length : Int))
     ((at? a_ s_2).bind fun e_12 =>
      (at? b_ s_2).bind fun e_17 =>
       (laws_eqEdge e_12 e_17).bind fun y_22 =>
        cond y_22
         (some (.inl (addI s_2 1)))
         (some (.inr (.inl ()))))
     (some (.inr (.inr ())))) 0).bind fun r_26 =>
   Sum.elim (fun _r_26 =>
     some false)
     (fun _r_26 =>
     some true) r_26)

noncomputable def laws_eqProgram (a_ : TProgram) (b_ : TProgram) : Option (Bool) :=
 (laws_eqStringS a_.vars b_.vars).bind fun y_1 =>
  cond y_1
   (cond (neI a_.points b_.points)
    (some false)
    ((laws_eqEdgeS a_.edges b_.edges).bind fun y_6 =>
     cond y_6
      (some true)
      (some false)))
   (some false)

noncomputable def laws_heldIntS (a_ : (List Int)) (k_ : Int) : Option (Int) :=
 (iter (ρ := (Int) ⊕ (Int)) (fun s_1 : Int × Int =>
   cond (ltI s_1.2 (a_.length : Int))
    ((at? a_ s_1.2).bind fun e_11 =>
     cond (neI e_11 s_1.1)
      (some (.inr (.inl (-1))))
      (some (.inl (addI s_1.1 1, addI s_1.2 1))))
    (some (.inr (.inr s_1.1)))) (k_, 0)).bind fun r_17 =>
  Sum.elim (fun r_17 =>
    some r_17)
    (fun r_17 =>
    some r_17) r_17

noncomputable def laws_heldHeap (a_ : THeap) (k_ : Int) : Option (Int) :=
 (laws_heldIntS a_.vars k_).bind fun y_1 =>
  cond (ltI y_1 0)
   (some (-1))
   ((laws_heldIntS a_.next y_1).bind fun y_5 =>
    cond (ltI y_5 0)
     (some (-1))
     (some y_5))

noncomputable def laws_heldState (a_ : TState) (k_ : Int) : Option (Int) :=
 (laws_heldHeap a_.heap k_).bind fun y_1 =>
  cond (ltI y_1 0)
   (some (-1))
   (some y_1)

noncomputable def laws_FnExactFollow (aP : TProgram) (aH : THeap) (aEdges : (List Int)) : Option (Bool) :=
 cond (ltI 1048576 (aEdges.length : Int))
  (some true)
  ((laws_szProgram aP 1048576).bind fun y_2 =>
   cond (ltI y_2 0)
    (some true)
    ((laws_szHeap aH y_2).bind fun y_6 =>
     cond (ltI y_6 0)
      (some true)
      ((laws_toProgram aP).bind fun y_10 =>
       (laws_toHeap aH).bind fun y_13 =>
        (laws_toIntS aEdges).bind fun y_16 =>
         (spec_Follow y_10 y_13 y_16).bind fun y_19 =>
          (laws_toProgram aP).bind fun _ =>
           (laws_toHeap aH).bind fun _ =>
            (laws_toIntS aEdges).bind fun _ =>
             (impl_Follow y_10 y_13 y_16).bind fun y_28 =>
              (laws_eqState y_28.1 y_19.1).bind fun y_31 =>
               cond y_31
                (cond (neI y_28.2.1 y_19.2.1)
                 (some false)
                 (cond (neI y_28.2.2 y_19.2.2)
                  (some false)
                  ((laws_toProgram aP).bind fun _ =>
                   (laws_eqProgram y_10 y_10).bind fun y_39 =>
                    cond y_39
                     ((laws_toHeap aH).bind fun _ =>
                      (laws_eqHeap y_13 y_13).bind fun y_45 =>
                       cond y_45
                        ((laws_toIntS aEdges).bind fun _ =>
                         (laws_eqIntS y_16 y_16).bind fun y_51 =>
                          cond y_51
                           ((markO mkF_markProgram y_10 1).bind fun r_55 =>
                            (markO mkF_markHeap y_13 r_55.2).bind fun r_87 =>
                             (markO zaj y_16 r_87.2).bind fun r_118 =>
                              cond (ltI r_118.2 0)
                               (some false)
                               ((laws_eqState y_28.1 y_19.1).bind fun y_149 =>
                                cond y_149
                                 ((markO mkF_markState y_28.1 1).bind fun r_153 =>
                                  (laws_heldState r_153.1 1).bind fun y_181 =>
                                   cond (ltI y_181 0)
                                    (some false)
                                    (cond (neI y_181 r_153.2)
                                     (some false)
                                     ((laws_toProgram aP).bind fun y_186 =>
                                      (laws_toHeap aH).bind fun y_189 =>
                                       (laws_toIntS aEdges).bind fun y_192 =>
                                        (impl_Follow y_186 y_189 y_192).bind fun y_195 =>
                                         (laws_eqState y_195.1 y_19.1).bind fun y_199 =>
                                          cond y_199
                                           (cond (neI y_195.2.1 y_19.2.1)
                                            (some false)
                                            (cond (neI y_195.2.2 y_19.2.2)
                                             (some false)
                                             ((laws_heldState r_153.1 1).bind fun _ =>
                                              some true)))
                                           (some false))))
                                 (some false)))
                           (some false))
                        (some false))
                     (some false))))
                (some false))))

end Go.Ev

