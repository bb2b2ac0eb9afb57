import Derived.Test.YtdjpaoikfigfhaaEvA7
import Derived.Test.YtdjpaoikfigfhaaEvA8
set_option linter.unusedSimpArgs false
set_option linter.unusedVariables false
set_option linter.unnecessarySimpa false
namespace Go.Ev
def slices_Clone_int (s : (List Int)) : Option (List Int) := lib_Clone 8 s

def slices_Concat_int (s : (List (List Int))) : Option (List Int) := lib_Concat 8 s

noncomputable def laws_szIntS (a_ : (List Int)) (left : Int) : Option (Int) :=
  cond (ltI (subI left (a_.length : Int)) 0)
    (some (-1))
    (some (subI left (a_.length : Int)))

noncomputable def laws_szNode (a_ : TNode) (left : Int) : Option (Int) :=
  (laws_szIntS a_.vars left).bind fun y_1 =>
    cond (ltI y_1 0)
      (some (-1))
      ((laws_szIntS a_.reach y_1).bind fun y_5 =>
        cond (ltI y_5 0)
          (some (-1))
          (some y_5))

noncomputable def laws_szNodeS (a_ : (List TNode)) (left : Int) : Option (Int) :=
  cond (ltI (subI left (a_.length : Int)) 0)
    (some (-1))
    ((iter (ρ := (Int) ⊕ (Int)) (fun s_2 : Int × Int =>
        cond (ltI s_2.2 (a_.length : Int))
          ((at? a_ s_2.2).bind fun e_12 =>
            (laws_szNode e_12 s_2.1).bind fun y_17 =>
              cond (ltI y_17 0)
                (some (.inr (.inl (-1))))
                (some (.inl (y_17, addI s_2.2 1))))
          (some (.inr (.inr s_2.1)))) (subI left (a_.length : Int), 0)).bind fun r_21 =>
      Sum.elim (fun r_21 =>
          some r_21)
        (fun r_21 =>
          some r_21) r_21)

noncomputable def laws_szStructure (a_ : TStructure) (left : Int) : Option (Int) :=
  (laws_szNodeS a_.nodes left).bind fun y_1 =>
    cond (ltI y_1 0)
      (some (-1))
      ((laws_szIntS a_.next y_1).bind fun y_5 =>
        cond (ltI y_5 0)
          (some (-1))
          (some y_5))

noncomputable def laws_toIntS (a_ : (List Int)) : Option ((List Int)) :=
  (roomI (a_.length : Int) 8).bind fun _ =>
    (iter (ρ := (List Int)) (fun s_5 : Int × (List Int) =>
        cond (ltI s_5.1 (a_.length : Int))
          ((at? a_ s_5.1).bind fun e_16 =>
            (at? s_5.2 s_5.1).bind fun e_21 =>
              some (.inl (addI s_5.1 1, s_5.2.set s_5.1.toNat e_16)))
          (some (.inr s_5.2))) (0, List.replicate (a_.length : Int).toNat (0 : Int))).bind fun r_27 =>
      some r_27

noncomputable def laws_toNode (a_ : TNode) : Option (TNode) :=
  (laws_toIntS a_.vars).bind fun y_1 =>
    (laws_toIntS a_.reach).bind fun y_4 =>
      some (⟨y_1, y_4, a_.shared, a_.many⟩ : TNode)

noncomputable def laws_toNodeS (a_ : (List TNode)) : Option ((List TNode)) :=
  (roomI (a_.length : Int) 64).bind fun _ =>
    (iter (ρ := (List TNode)) (fun s_5 : Int × (List TNode) =>
        cond (ltI s_5.1 (a_.length : Int))
          ((at? a_ s_5.1).bind fun e_16 =>
            (laws_toNode e_16).bind fun y_21 =>
              (at? s_5.2 s_5.1).bind fun e_24 =>
                some (.inl (addI s_5.1 1, s_5.2.set s_5.1.toNat y_21)))
          (some (.inr s_5.2))) (0, List.replicate (a_.length : Int).toNat ((⟨[], [], 0, 0⟩ : TNode) : TNode))).bind fun r_30 =>
      some r_30

noncomputable def laws_toStructure (a_ : TStructure) : Option (TStructure) :=
  (laws_toNodeS a_.nodes).bind fun y_1 =>
    (laws_toIntS a_.next).bind fun y_4 =>
      some (⟨y_1, y_4⟩ : TStructure)

noncomputable def spec_l1In (x_ : Int) (lo : Int) (hi : Int) : Option (Bool) :=
  cond (leI lo x_)
    (some (leI x_ hi))
    (some false)

noncomputable def B_spec_l9Lists (self : Int → Int → Option ((List (List Int)))) (n_ : Int) (most : Int) : Option ((List (List Int))) :=
  cond (eqI n_ 0)
    (some [[]])
    ((self (subI n_ 1) most).bind fun y_2 =>
      (iter (ρ := (List (List Int))) (fun s_4 : (List (List Int)) × Int =>
          cond (leI s_4.2 most)
            ((iter (ρ := (List (List Int))) (fun s_15 : (List (List Int)) × Int =>
                cond (ltI s_15.2 (y_2.length : Int))
                  ((at? y_2 s_15.2).bind fun e_27 =>
                    (room ([s_4.2].length + e_27.length) 8).bind fun _ =>
                      (room (s_15.1.length + [[s_4.2] ++ e_27].length) 24).bind fun _ =>
                        some (.inl (s_15.1 ++ [[s_4.2] ++ e_27], addI s_15.2 1)))
                  (some (.inr s_15.1))) (s_4.1, 0)).bind fun r_36 =>
              some (.inl (r_36, addI s_4.2 1)))
            (some (.inr s_4.1))) ([], (-1))).bind fun r_44 =>
        some r_44)
noncomputable def R_spec_l9Lists : ((Int × Int × Unit) → Option ((List (List Int)))) → (Int × Int × Unit) → Option ((List (List Int))) := fun self x => B_spec_l9Lists (fun n_ most => self (n_, most, ())) x.1 x.2.1
noncomputable def spec_l9Lists (n_ : Int) (most : Int) : Option ((List (List Int))) := fixO R_spec_l9Lists (n_, most, ())
set_option maxRecDepth 100000 in
theorem R_spec_l9Lists_mono : ∀ f g : (Int × Int × Unit) → Option ((List (List Int))), (∀ x, Le (f x) (g x)) → ∀ x, Le (R_spec_l9Lists f x) (R_spec_l9Lists g x) := by
  intro f g h x
  unfold R_spec_l9Lists B_spec_l9Lists
  repeat' (first | with_reducible exact Le.refl _ | with_reducible exact h _ | refine Le.bind ?_ (fun _ => ?_) | refine Le.cond ?_ ?_ | refine Le.iter (fun _ => ?_) _ | refine Le.elim (fun _ => ?_) (fun _ => ?_))


noncomputable def spec_l7Cells (h_ : THeap) : Option (Bool) :=
  (iter (ρ := (Unit) ⊕ (Unit)) (fun s_1 : Int =>
      cond (ltI s_1 (h_.vars.length : Int))
        ((at? h_.vars s_1).bind fun e_11 =>
          (spec_l1In e_11 (-1) (subI (h_.next.length : Int) 1)).bind fun y_16 =>
            cond y_16
              (some (.inl (addI s_1 1)))
              (some (.inr (.inl ()))))
        (some (.inr (.inr ())))) 0).bind fun r_20 =>
    Sum.elim (fun _r_20 =>
        some false)
      (fun _r_20 =>
        (iter (ρ := (Bool) ⊕ (Unit)) (fun s_30 : Int =>
            cond (ltI s_30 (h_.next.length : Int))
              ((at? h_.next s_30).bind fun e_40 =>
                (spec_l1In e_40 (-1) (subI (h_.next.length : Int) 1)).bind fun y_45 =>
                  cond y_45
                    (some (.inl (addI s_30 1)))
                    (some (.inr (.inl false))))
              (some (.inr (.inr ())))) 0).bind fun r_49 =>
          Sum.elim (fun r_49 =>
              some r_49)
            (fun _r_49 =>
              some true) r_49) r_20

noncomputable def spec_Positions (list : (List Int)) (n_ : Int) : Option ((List Int)) :=
  (iter (ρ := (List Int)) (fun s_1 : (List Int) × Int =>
      cond (ltI s_1.2 (list.length : Int))
        ((at? list s_1.2).bind fun e_12 =>
          cond (eqI e_12 n_)
            ((room (s_1.1.length + [s_1.2].length) 8).bind fun _ =>
              some (.inl (s_1.1 ++ [s_1.2], addI s_1.2 1)))
            (some (.inl (s_1.1, addI s_1.2 1))))
        (some (.inr s_1.1))) ([], 0)).bind fun r_20 =>
    some r_20

noncomputable def spec_l7Has (list : (List Int)) (n_ : Int) : Option (Bool) :=
  (spec_Positions list n_).bind fun y_1 =>
    some (ltI 0 (y_1.length : Int))

noncomputable def spec_Followed (h_ : THeap) (cell : Int) : Option ((List Int)) :=
  (iter (ρ := ((List Int)) ⊕ (Unit)) (fun s_1 : Int × (List Int) =>
      cond (neI s_1.1 (-1))
        ((spec_l7Has s_1.2 s_1.1).bind fun y_12 =>
          cond y_12
            (some (.inr (.inl s_1.2)))
            ((spec_l1In s_1.1 0 (subI (h_.next.length : Int) 1)).bind fun y_16 =>
              cond y_16
                ((room (s_1.2.length + [s_1.1].length) 8).bind fun _ =>
                  (at? h_.next s_1.1).bind fun e_22 =>
                    some (.inl (e_22, s_1.2 ++ [s_1.1])))
                (some (.inr (.inr ())))))
        (some (.inr (.inl s_1.2)))) (cell, [])).bind fun r_27 =>
    Sum.elim (fun r_27 =>
        some r_27)
      (fun _r_27 =>
        some []) r_27

noncomputable def spec_l7Acyclic (h_ : THeap) : Option (Bool) :=
  (iter (ρ := (Unit) ⊕ (Unit)) (fun s_1 : Int =>
      cond (ltI s_1 (h_.next.length : Int))
        ((spec_Followed h_ s_1).bind fun y_11 =>
          cond (eqI (y_11.length : Int) 0)
            (some (.inr (.inl ())))
            ((at? y_11 (subI (y_11.length : Int) 1)).bind fun e_15 =>
              (at? h_.next e_15).bind fun e_20 =>
                cond (neI e_20 (-1))
                  (some (.inr (.inl ())))
                  (some (.inl (addI s_1 1)))))
        (some (.inr (.inr ())))) 0).bind fun r_26 =>
    Sum.elim (fun _r_26 =>
        some false)
      (fun _r_26 =>
        some true) r_26

noncomputable def spec_l7Order (h_ : THeap) : Option ((List Int)) :=
  (iter (ρ := (List Int)) (fun s_1 : (List Int) × Int =>
      cond (ltI s_1.2 (h_.vars.length : Int))
        ((at? h_.vars s_1.2).bind fun e_12 =>
          (spec_Followed h_ e_12).bind fun y_17 =>
            (iter (ρ := (List Int)) (fun s_20 : Int × (List Int) =>
                cond (ltI s_20.1 (y_17.length : Int))
                  ((at? y_17 s_20.1).bind fun e_33 =>
                    (spec_l7Has s_20.2 e_33).bind fun y_38 =>
                      cond y_38
                        (some (.inl (addI s_20.1 1, s_20.2)))
                        ((at? y_17 s_20.1).bind fun _ =>
                          (room (s_20.2.length + [e_33].length) 8).bind fun _ =>
                            some (.inl (addI s_20.1 1, s_20.2 ++ [e_33]))))
                  (some (.inr s_20.2))) (0, s_1.1)).bind fun r_49 =>
              some (.inl (r_49, addI s_1.2 1)))
        (some (.inr s_1.1))) ([], 0)).bind fun r_57 =>
    some r_57

noncomputable def spec_IsHeap (vars : Int) (h_ : THeap) : Option (Bool) :=
  (spec_l1In vars 1 4).bind fun y_1 =>
    cond y_1
      (cond (neI (h_.vars.length : Int) vars)
        (some false)
        (cond (ltI 6 (h_.next.length : Int))
          (some false)
          ((spec_l7Cells h_).bind fun y_7 =>
            cond y_7
              ((spec_l7Acyclic h_).bind fun y_11 =>
                cond y_11
                  ((spec_l7Order h_).bind fun y_15 =>
                    (iter (ρ := (Unit) ⊕ (Unit)) (fun s_18 : Int =>
                        cond (ltI s_18 (y_15.length : Int))
                          ((at? y_15 s_18).bind fun e_29 =>
                            cond (neI e_29 s_18)
                              (some (.inr (.inl ())))
                              (some (.inl (addI s_18 1))))
                          (some (.inr (.inr ())))) 0).bind fun r_35 =>
                      Sum.elim (fun _r_35 =>
                          some false)
                        (fun _r_35 =>
                          some (eqI (y_15.length : Int) (h_.next.length : Int))) r_35)
                  (some false))
              (some false))))
      (some false)

noncomputable def spec_l7Copy (h_ : THeap) : Option (THeap) :=
  (room (([] : List Int).length + h_.vars.length) 8).bind fun _ =>
    (room (([] : List Int).length + h_.next.length) 8).bind fun _ =>
      some h_

noncomputable def spec_SmallHeaps (vars : Int) (cells : Int) : Option ((List THeap)) :=
  (spec_l1In vars 1 4).bind fun y_1 =>
    cond y_1
      ((spec_l1In cells 0 3).bind fun y_5 =>
        cond y_5
          ((iter (ρ := (List THeap)) (fun s_9 : (List THeap) × Int =>
              cond (leI s_9.2 cells)
                ((spec_l9Lists vars (subI s_9.2 1)).bind fun y_20 =>
                  (spec_l9Lists s_9.2 (subI s_9.2 1)).bind fun y_23 =>
                    (iter (ρ := (List THeap)) (fun s_26 : (List THeap) × Int =>
                        cond (ltI s_26.2 (y_20.length : Int))
                          ((iter (ρ := (List THeap)) (fun s_40 : (List THeap) × Int =>
                              cond (ltI s_40.2 (y_23.length : Int))
                                ((at? y_20 s_26.2).bind fun e_55 =>
                                  (at? y_23 s_40.2).bind fun e_60 =>
                                    (spec_IsHeap vars (⟨e_55, e_60⟩ : THeap)).bind fun y_66 =>
                                      cond y_66
                                        ((spec_l7Copy (⟨e_55, e_60⟩ : THeap)).bind fun y_70 =>
                                          (room (s_40.1.length + [y_70].length) 48).bind fun _ =>
                                            some (.inl (s_40.1 ++ [y_70], addI s_40.2 1)))
                                        (some (.inl (s_40.1, addI s_40.2 1))))
                                (some (.inr s_40.1))) (s_26.1, 0)).bind fun r_75 =>
                            some (.inl (r_75, addI s_26.2 1)))
                          (some (.inr s_26.1))) (s_9.1, 0)).bind fun r_86 =>
                      some (.inl (r_86, addI s_9.2 1)))
                (some (.inr s_9.1))) ([], 0)).bind fun r_94 =>
            some r_94)
          (some []))
      (some [])

noncomputable def spec_l3Of (on : Bool) : Option (Int) :=
  cond on
    (some 2)
    (some 0)

noncomputable def spec_StructureOf (h_ : THeap) : Option (TStructure) :=
  (spec_l7Cells h_).bind fun y_1 =>
    cond y_1
      (cond (ltI 10 (h_.next.length : Int))
        (some (⟨[], []⟩ : TStructure))
        ((spec_l1In (h_.vars.length : Int) 1 4).bind fun y_6 =>
          cond y_6
            ((iter (ρ := (List TNode) × (List Int)) (fun s_10 : Int × (List TNode) × (List Int) =>
                cond (ltI s_10.1 (h_.next.length : Int))
                  ((spec_Positions h_.next s_10.1).bind fun y_25 =>
                    (spec_l3Of (ltI 1 (y_25.length : Int))).bind fun y_28 =>
                      (iter (ρ := (List Int) × (List Int)) (fun s_32 : Int × (List Int) × (List Int) =>
                          cond (ltI s_32.1 (h_.vars.length : Int))
                            ((at? h_.vars s_32.1).bind fun e_50 =>
                              (spec_l3Of (eqI e_50 s_10.1)).bind fun y_55 =>
                                (room (s_32.2.1.length + [y_55].length) 8).bind fun _ =>
                                  (at? h_.vars s_32.1).bind fun _ =>
                                    (spec_Followed h_ e_50).bind fun y_65 =>
                                      (spec_l7Has y_65 s_10.1).bind fun y_68 =>
                                        (spec_l3Of y_68).bind fun y_71 =>
                                          (room (s_32.2.2.length + [y_71].length) 8).bind fun _ =>
                                            some (.inl (addI s_32.1 1, s_32.2.1 ++ [y_55], s_32.2.2 ++ [y_71])))
                            (some (.inr (s_32.2.1, s_32.2.2)))) (0, [], [])).bind fun r_76 =>
                        (room (s_10.2.1.length + [(⟨r_76.1, r_76.2, y_28, 0⟩ : TNode)].length) 64).bind fun _ =>
                          (iter (ρ := (List Int)) (fun s_92 : Int × (List Int) =>
                              cond (ltI s_92.1 (h_.next.length : Int))
                                ((at? h_.next s_10.1).bind fun e_109 =>
                                  (spec_l3Of (eqI e_109 s_92.1)).bind fun y_114 =>
                                    (room (s_92.2.length + [y_114].length) 8).bind fun _ =>
                                      some (.inl (addI s_92.1 1, s_92.2 ++ [y_114])))
                                (some (.inr s_92.2))) (0, s_10.2.2)).bind fun r_119 =>
                            some (.inl (addI s_10.1 1, s_10.2.1 ++ [(⟨r_76.1, r_76.2, y_28, 0⟩ : TNode)], r_119)))
                  (some (.inr (s_10.2.1, s_10.2.2)))) (0, [], [])).bind fun r_132 =>
              some (⟨r_132.1, r_132.2⟩ : TStructure))
            (some (⟨[], []⟩ : TStructure))))
      (some (⟨[], []⟩ : TStructure))

noncomputable def spec_IsTruth (a_ : Int) : Option (Bool) :=
  (spec_l1In a_ 0 2).bind fun y_1 =>
    some y_1

noncomputable def spec_IsWithin (a_ : Int) (b_ : Int) : Option (Bool) :=
  (spec_IsTruth a_).bind fun y_1 =>
    cond y_1
      ((spec_IsTruth b_).bind fun y_5 =>
        cond y_5
          (cond (eqI b_ 1)
            (some true)
            (some (eqI a_ b_)))
          (some false))
      (some false)

noncomputable def spec_l16Lists (a_ : (List Int)) (b_ : (List Int)) : Option (Bool) :=
  cond (neI (a_.length : Int) (b_.length : Int))
    (some false)
    ((iter (ρ := (Unit) ⊕ (Unit)) (fun s_2 : Int =>
        cond (ltI s_2 (a_.length : Int))
          ((at? a_ s_2).bind fun e_12 =>
            (at? b_ s_2).bind fun e_17 =>
              (spec_IsWithin e_12 e_17).bind fun y_22 =>
                cond y_22
                  (some (.inl (addI s_2 1)))
                  (some (.inr (.inl ()))))
          (some (.inr (.inr ())))) 0).bind fun r_26 =>
      Sum.elim (fun _r_26 =>
          some false)
        (fun _r_26 =>
          some true) r_26)

noncomputable def spec_l16Node (x_ : TNode) (y_ : TNode) : Option (Bool) :=
  (spec_l16Lists x_.vars y_.vars).bind fun y_1 =>
    cond y_1
      ((spec_l16Lists x_.reach y_.reach).bind fun y_5 =>
        cond y_5
          ((spec_IsWithin x_.shared y_.shared).bind fun y_9 =>
            cond y_9
              ((spec_IsWithin x_.many y_.many).bind fun y_13 =>
                some y_13)
              (some false))
          (some false))
      (some false)

noncomputable def spec_NextOf (s : TStructure) (i : Int) (j : Int) : Option (Int) :=
  (spec_l1In i 0 (subI (s.nodes.length : Int) 1)).bind fun y_1 =>
    cond y_1
      ((spec_l1In j 0 (subI (s.nodes.length : Int) 1)).bind fun y_5 =>
        cond y_5
          (cond (neI (s.next.length : Int) (mulI (s.nodes.length : Int) (s.nodes.length : Int)))
            (some 1)
            ((at? s.next (addI (mulI i (s.nodes.length : Int)) j)).bind fun e_10 =>
              some e_10))
          (some 1))
      (some 1)

noncomputable def spec_l16Fits (s : TStructure) (t : TStructure) (to_ : (List Int)) : Option (Bool) :=
  (at? s.nodes (subI (to_.length : Int) 1)).bind fun e_1 =>
    (at? to_ (subI (to_.length : Int) 1)).bind fun e_6 =>
      (at? t.nodes e_6).bind fun e_11 =>
        (spec_l16Node e_1 e_11).bind fun y_16 =>
          cond y_16
            ((iter (ρ := (Unit) ⊕ (Unit)) (fun s_20 : Int =>
                cond (leI s_20 (subI (to_.length : Int) 1))
                  ((spec_NextOf s (subI (to_.length : Int) 1) s_20).bind fun y_34 =>
                    (at? to_ (subI (to_.length : Int) 1)).bind fun _ =>
                      (at? to_ s_20).bind fun e_42 =>
                        (spec_NextOf t e_6 e_42).bind fun y_47 =>
                          (spec_IsWithin y_34 y_47).bind fun y_50 =>
                            cond y_50
                              ((spec_NextOf s s_20 (subI (to_.length : Int) 1)).bind fun y_54 =>
                                (at? to_ s_20).bind fun _ =>
                                  (at? to_ (subI (to_.length : Int) 1)).bind fun _ =>
                                    (spec_NextOf t e_42 e_6).bind fun y_67 =>
                                      (spec_IsWithin y_54 y_67).bind fun y_70 =>
                                        cond y_70
                                          (cond (ltI s_20 (subI (to_.length : Int) 1))
                                            ((at? to_ s_20).bind fun _ =>
                                              (at? to_ (subI (to_.length : Int) 1)).bind fun _ =>
                                                cond (eqI e_42 e_6)
                                                  ((at? to_ (subI (to_.length : Int) 1)).bind fun _ =>
                                                    (at? t.nodes e_6).bind fun _ =>
                                                      cond (neI e_11.many 1)
                                                        (some (.inr (.inl ())))
                                                        (some (.inl (addI s_20 1))))
                                                  (some (.inl (addI s_20 1))))
                                            (some (.inl (addI s_20 1))))
                                          (some (.inr (.inl ()))))
                              (some (.inr (.inl ()))))
                  (some (.inr (.inr ())))) 0).bind fun r_97 =>
              Sum.elim (fun _r_97 =>
                  some false)
                (fun _r_97 =>
                  some true) r_97)
            (some false)

noncomputable def spec_IsEmbedding (s : TStructure) (t : TStructure) (to_ : (List Int)) : Option (Bool) :=
  cond (neI (to_.length : Int) (s.nodes.length : Int))
    (some false)
    ((iter (ρ := (Unit) ⊕ (Unit)) (fun s_2 : Int =>
        cond (ltI s_2 (to_.length : Int))
          ((at? to_ s_2).bind fun e_15 =>
            (spec_l1In e_15 0 (subI (t.nodes.length : Int) 1)).bind fun y_20 =>
              cond y_20
                ((slc to_ 0 (addI s_2 1)).bind fun z_24 =>
                  (spec_l16Fits s t z_24).bind fun y_31 =>
                    cond y_31
                      (some (.inl (addI s_2 1)))
                      (some (.inr (.inl ()))))
                (some (.inr (.inl ()))))
          (some (.inr (.inr ())))) 0).bind fun r_35 =>
      Sum.elim (fun _r_35 =>
          some false)
        (fun _r_35 =>
          (iter (ρ := (Bool) ⊕ (Unit)) (fun s_48 : Int =>
              cond (ltI s_48 (t.nodes.length : Int))
                ((spec_l7Has to_ s_48).bind fun y_60 =>
                  cond y_60
                    (some (.inl (addI s_48 1)))
                    (some (.inr (.inl false))))
                (some (.inr (.inr ())))) 0).bind fun r_64 =>
            Sum.elim (fun r_64 =>
                some r_64)
              (fun _r_64 =>
                some true) r_64) r_35)

noncomputable def B_spec_l16Find (self : TStructure → TStructure → (List Int) → Option ((List Int) × Bool)) (s : TStructure) (t : TStructure) (to_ : (List Int)) : Option ((List Int) × Bool) :=
  cond (eqI (to_.length : Int) (s.nodes.length : Int))
    ((spec_IsEmbedding s t to_).bind fun y_2 =>
      some (to_, y_2))
    ((iter (ρ := ((List Int) × Bool) ⊕ (Unit)) (fun s_5 : Int =>
        cond (ltI s_5 (t.nodes.length : Int))
          ((room (([] : List Int).length + to_.length) 8).bind fun _ =>
            (room (to_.length + [s_5].length) 8).bind fun _ =>
              (spec_l16Fits s t (to_ ++ [s_5])).bind fun y_24 =>
                cond y_24
                  ((self s t (to_ ++ [s_5])).bind fun y_28 =>
                    cond y_28.2
                      (some (.inr (.inl (y_28.1, true))))
                      (some (.inl (addI s_5 1))))
                  (some (.inl (addI s_5 1))))
          (some (.inr (.inr ())))) 0).bind fun r_32 =>
      Sum.elim (fun r_32 =>
          some (r_32.1, r_32.2))
        (fun _r_32 =>
          some ([], false)) r_32)
noncomputable def R_spec_l16Find : ((TStructure × TStructure × (List Int) × Unit) → Option ((List Int) × Bool)) → (TStructure × TStructure × (List Int) × Unit) → Option ((List Int) × Bool) := fun self x => B_spec_l16Find (fun s t to_ => self (s, t, to_, ())) x.1 x.2.1 x.2.2.1
noncomputable def spec_l16Find (s : TStructure) (t : TStructure) (to_ : (List Int)) : Option ((List Int) × Bool) := fixO R_spec_l16Find (s, t, to_, ())
set_option maxRecDepth 100000 in
theorem R_spec_l16Find_mono : ∀ f g : (TStructure × TStructure × (List Int) × Unit) → Option ((List Int) × Bool), (∀ x, Le (f x) (g x)) → ∀ x, Le (R_spec_l16Find f x) (R_spec_l16Find g x) := by
  intro f g h x
  unfold R_spec_l16Find B_spec_l16Find
  repeat' (first | with_reducible exact Le.refl _ | with_reducible exact h _ | refine Le.bind ?_ (fun _ => ?_) | refine Le.cond ?_ ?_ | refine Le.iter (fun _ => ?_) _ | refine Le.elim (fun _ => ?_) (fun _ => ?_))

noncomputable def spec_FindEmbedding (s : TStructure) (t : TStructure) : Option ((List Int) × Bool) :=
  (spec_l16Find s t []).bind fun y_1 =>
    cond y_1.2
      ((room (([] : List Int).length + y_1.1.length) 8).bind fun _ =>
        some (y_1.1, true))
      (some ([], false))

noncomputable def spec_IsEmbedded (s : TStructure) (t : TStructure) : Option (Bool) :=
  (spec_FindEmbedding s t).bind fun y_1 =>
    some y_1.2

noncomputable def spec_Describes (t : TStructure) (h_ : THeap) : Option (Bool) :=
  (spec_StructureOf h_).bind fun y_1 =>
    (spec_IsEmbedded y_1 t).bind fun y_4 =>
      some y_4

noncomputable def spec_SetDescribes (set : (List TStructure)) (h_ : THeap) : Option (Bool) :=
  (iter (ρ := (Bool) ⊕ (Unit)) (fun s_1 : Int =>
      cond (ltI s_1 (set.length : Int))
        ((at? set s_1).bind fun e_12 =>
          (spec_Describes e_12 h_).bind fun y_17 =>
            cond y_17
              (some (.inr (.inl true)))
              (some (.inl (addI s_1 1))))
        (some (.inr (.inr ())))) 0).bind fun r_21 =>
    Sum.elim (fun r_21 =>
        some r_21)
      (fun _r_21 =>
        some false) r_21

noncomputable def spec_SmallHeapsOf (vars : Int) (set : (List TStructure)) (cells : Int) : Option ((List THeap)) :=
  (spec_SmallHeaps vars cells).bind fun y_1 =>
    (iter (ρ := (List THeap) × Int) (fun s_4 : (List THeap) × Int × Int =>
        cond (ltI s_4.2.1 (y_1.length : Int))
          ((at? y_1 s_4.2.1).bind fun e_16 =>
            (takeI s_4.2.1 s_4.2.2).bind fun _ =>
              (spec_SetDescribes set e_16).bind fun y_24 =>
                cond y_24
                  ((at? y_1 s_4.2.1).bind fun _ =>
                    (takeI s_4.2.1 s_4.2.2).bind fun _ =>
                      (room (s_4.1.length + [e_16].length) 48).bind fun _ =>
                        some (.inl (s_4.1 ++ [e_16], addI s_4.2.1 1, s_4.2.2 + 1)))
                  ((takeI s_4.2.1 s_4.2.2).bind fun _ =>
                    some (.inl (s_4.1, addI s_4.2.1 1, s_4.2.2 + 1))))
          (some (.inr (s_4.1, s_4.2.2)))) ([], 0, 0)).bind fun r_48 =>
      some r_48.1

noncomputable def spec_LeastHeap (vars : Int) (s : TStructure) : Option (THeap × Bool) :=
  (iter (ρ := (Bool × (List Int) × (List Int)) ⊕ (Unit)) (fun s_1 : Int =>
      cond (leI s_1 3)
        ((spec_SmallHeapsOf vars [s] s_1).bind fun y_14 =>
          cond (ltI 0 (y_14.length : Int))
            ((at? y_14 0).bind fun e_19 =>
              (takeI 0 0).bind fun _ =>
                some (.inr (.inl (true, e_19.vars, e_19.next))))
            (some (.inl (addI s_1 1))))
        (some (.inr (.inr ())))) 0).bind fun r_27 =>
    Sum.elim (fun r_27 =>
        some ((⟨r_27.2.1, r_27.2.2⟩ : THeap), r_27.1))
      (fun _r_27 =>
        some ((⟨[], []⟩ : THeap), false)) r_27

noncomputable def impl_within (n_ : Int) (low : Int) (high : Int) : Option (Bool) :=
  cond (leI low n_)
    (some (leI n_ high))
    (some false)

noncomputable def impl_Heap_isCell (h_ : THeap) (n_ : Int) : Option (Bool) :=
  (impl_within n_ 0 (subI (h_.next.length : Int) 1)).bind fun y_1 =>
    some y_1

noncomputable def slices_IndexFunc_int (s : (List Int)) (f_ : (Int → Option (Bool))) : Option (Int) :=
  (iter (ρ := (Int) ⊕ (Unit)) (fun s_1 : Int =>
      cond (ltI s_1 (s.length : Int))
        ((at? s s_1).bind fun e_12 =>
          (f_ e_12).bind fun y_17 =>
            cond y_17
              (some (.inr (.inl s_1)))
              (some (.inl (addI s_1 1))))
        (some (.inr (.inr ())))) 0).bind fun r_20 =>
    Sum.elim (fun r_20 =>
        some r_20)
      (fun _r_20 =>
        some (-1)) r_20

noncomputable def slices_ContainsFunc_int (s : (List Int)) (f_ : (Int → Option (Bool))) : Option (Bool) :=
  (slices_IndexFunc_int s f_).bind fun y_1 =>
    some (leI 0 y_1)

noncomputable def impl_Heap_areCells_1 (n_ : Int) (c0 : THeap) : Option (Bool) :=
  cond (neI n_ (-1))
    ((impl_Heap_isCell c0 n_).bind fun y_2 =>
      some (notB y_2))
    (some false)

noncomputable def impl_Heap_areCells (h_ : THeap) : Option (Bool) :=
  (slices_Concat_int [h_.vars, h_.next]).bind fun y_1 =>
    (slices_ContainsFunc_int y_1 (fun x0 => impl_Heap_areCells_1 x0 h_)).bind fun y_4 =>
      some (notB y_4)

noncomputable def impl_Positions (list : (List Int)) (n_ : Int) : Option ((List Int)) :=
  (iter (ρ := (List Int)) (fun s_1 : (List Int) × Int =>
      cond (ltI s_1.2 (list.length : Int))
        ((at? list s_1.2).bind fun e_13 =>
          cond (eqI e_13 n_)
            ((room (s_1.1.length + [s_1.2].length) 8).bind fun _ =>
              some (.inl (s_1.1 ++ [s_1.2], addI s_1.2 1)))
            (some (.inl (s_1.1, addI s_1.2 1))))
        (some (.inr s_1.1))) ([], 0)).bind fun r_21 =>
    some r_21

noncomputable def impl_truthOf (b_ : Bool) : Option (Int) :=
  cond b_
    (some 2)
    (some 0)

noncomputable def slices_Index_int (s : (List Int)) (v : Int) : Option (Int) :=
  (iter (ρ := (Int) ⊕ (Unit)) (fun s_1 : Int =>
      cond (ltI s_1 (s.length : Int))
        ((at? s s_1).bind fun e_12 =>
          cond (eqI v e_12)
            (some (.inr (.inl s_1)))
            (some (.inl (addI s_1 1))))
        (some (.inr (.inr ())))) 0).bind fun r_18 =>
    Sum.elim (fun r_18 =>
        some r_18)
      (fun _r_18 =>
        some (-1)) r_18

noncomputable def slices_Contains_int (s : (List Int)) (v : Int) : Option (Bool) :=
  (slices_Index_int s v).bind fun y_1 =>
    some (leI 0 y_1)

noncomputable def impl_Followed (h_ : THeap) (cell : Int) : Option ((List Int)) :=
  (iter (ρ := ((List Int)) ⊕ (Unit)) (fun s_1 : (List Int) × Int =>
      cond (neI s_1.2 (-1))
        ((impl_Heap_isCell h_ s_1.2).bind fun y_13 =>
          cond y_13
            ((slices_Contains_int s_1.1 s_1.2).bind fun y_17 =>
              cond y_17
                (some (.inr (.inl s_1.1)))
                ((room (s_1.1.length + [s_1.2].length) 8).bind fun _ =>
                  (at? h_.next s_1.2).bind fun e_23 =>
                    some (.inl (s_1.1 ++ [s_1.2], e_23))))
            (some (.inr (.inr ()))))
        (cond (eqI cell (-1))
          ((impl_Heap_isCell h_ s_1.2).bind fun y_29 =>
            cond y_29
              ((slices_Contains_int s_1.1 s_1.2).bind fun y_33 =>
                cond y_33
                  (some (.inr (.inl s_1.1)))
                  ((room (s_1.1.length + [s_1.2].length) 8).bind fun _ =>
                    (at? h_.next s_1.2).bind fun e_39 =>
                      some (.inl (s_1.1 ++ [s_1.2], e_39))))
              (some (.inr (.inr ()))))
          (some (.inr (.inl s_1.1))))) ([], cell)).bind fun r_44 =>
    Sum.elim (fun r_44 =>
        some r_44)
      (fun _r_44 =>
        some []) r_44

noncomputable def impl_StructureOf (h_ : THeap) : Option (TStructure) :=
  (impl_Heap_areCells h_).bind fun y_1 =>
    cond y_1
      (cond (ltI 10 (h_.next.length : Int))
        (some (⟨[], []⟩ : TStructure))
        ((impl_within (h_.vars.length : Int) 1 4).bind fun y_6 =>
          cond y_6
            ((iter (ρ := (List TNode) × (List Int)) (fun s_10 : Int × (List TNode) × (List Int) =>
                cond (ltI s_10.1 (h_.next.length : Int))
                  ((impl_Positions h_.next s_10.1).bind fun y_25 =>
                    (impl_truthOf (ltI 1 (y_25.length : Int))).bind fun y_28 =>
                      (iter (ρ := (List Int) × (List Int)) (fun s_32 : Int × (List Int) × (List Int) =>
                          cond (ltI s_32.1 (h_.vars.length : Int))
                            ((at? h_.vars s_32.1).bind fun e_53 =>
                              (impl_truthOf (eqI e_53 s_10.1)).bind fun y_58 =>
                                (room (s_32.2.1.length + [y_58].length) 8).bind fun _ =>
                                  (impl_Followed h_ e_53).bind fun y_63 =>
                                    (slices_Contains_int y_63 s_10.1).bind fun y_66 =>
                                      (impl_truthOf y_66).bind fun y_69 =>
                                        (room (s_32.2.2.length + [y_69].length) 8).bind fun _ =>
                                          some (.inl (addI s_32.1 1, s_32.2.1 ++ [y_58], s_32.2.2 ++ [y_69])))
                            (some (.inr (s_32.2.1, s_32.2.2)))) (0, [], [])).bind fun r_74 =>
                        (room (s_10.2.1.length + [(⟨r_74.1, r_74.2, y_28, 0⟩ : TNode)].length) 64).bind fun _ =>
                          (iter (ρ := (List Int)) (fun s_91 : Int × (List Int) =>
                              cond (ltI s_91.1 (h_.next.length : Int))
                                ((at? h_.next s_10.1).bind fun e_110 =>
                                  (impl_truthOf (eqI e_110 s_91.1)).bind fun y_115 =>
                                    (room (s_91.2.length + [y_115].length) 8).bind fun _ =>
                                      some (.inl (addI s_91.1 1, s_91.2 ++ [y_115])))
                                (some (.inr s_91.2))) (0, s_10.2.2)).bind fun r_120 =>
                            some (.inl (addI s_10.1 1, s_10.2.1 ++ [(⟨r_74.1, r_74.2, y_28, 0⟩ : TNode)], r_120)))
                  (some (.inr (s_10.2.1, s_10.2.2)))) (0, [], [])).bind fun r_133 =>
              some (⟨r_133.1, r_133.2⟩ : TStructure))
            (some (⟨[], []⟩ : TStructure))))
      (some (⟨[], []⟩ : TStructure))

noncomputable def impl_isOnto (t : TStructure) (to_ : (List Int)) : Option (Bool) :=
  (iter (ρ := (Unit) ⊕ (Unit)) (fun s_1 : Int =>
      cond (ltI s_1 (t.nodes.length : Int))
        ((slices_Contains_int to_ s_1).bind fun y_12 =>
          cond y_12
            (some (.inl (addI s_1 1)))
            (some (.inr (.inl ()))))
        (some (.inr (.inr ())))) 0).bind fun r_16 =>
    Sum.elim (fun _r_16 =>
        some false)
      (fun _r_16 =>
        some true) r_16

noncomputable def impl_Structure_isNode (s : TStructure) (i : Int) : Option (Bool) :=
  (impl_within i 0 (subI (s.nodes.length : Int) 1)).bind fun y_1 =>
    some y_1

noncomputable def impl_IsTruth (a_ : Int) : Option (Bool) :=
  (impl_within a_ 0 2).bind fun y_1 =>
    some y_1

noncomputable def impl_IsWithin (a_ : Int) (b_ : Int) : Option (Bool) :=
  (impl_IsTruth a_).bind fun y_1 =>
    cond y_1
      ((impl_IsTruth b_).bind fun y_5 =>
        cond y_5
          (cond (eqI b_ 1)
            (some true)
            (some (eqI a_ b_)))
          (some false))
      (some false)

noncomputable def slices_EqualFunc_intint_int_int_ (s1 : (List Int)) (s2 : (List Int)) (eq : (Int → Int → Option (Bool))) : Option (Bool) :=
  cond (neI (s1.length : Int) (s2.length : Int))
    (some false)
    ((iter (ρ := (Unit) ⊕ (Unit)) (fun s_2 : Int =>
        cond (ltI s_2 (s1.length : Int))
          ((at? s1 s_2).bind fun e_14 =>
            (at? s2 s_2).bind fun e_19 =>
              (eq e_14 e_19).bind fun y_24 =>
                cond y_24
                  (some (.inl (addI s_2 1)))
                  (some (.inr (.inl ()))))
          (some (.inr (.inr ())))) 0).bind fun r_27 =>
      Sum.elim (fun _r_27 =>
          some false)
        (fun _r_27 =>
          some true) r_27)

noncomputable def impl_isWithinNode (x_ : TNode) (y_ : TNode) : Option (Bool) :=
  (slices_EqualFunc_intint_int_int_ x_.vars y_.vars (fun x0 x1 => impl_IsWithin x0 x1)).bind fun y_1 =>
    cond y_1
      ((slices_EqualFunc_intint_int_int_ x_.reach y_.reach (fun x0 x1 => impl_IsWithin x0 x1)).bind fun y_4 =>
        cond y_4
          ((impl_IsWithin x_.shared y_.shared).bind fun y_7 =>
            cond y_7
              ((impl_IsWithin x_.many y_.many).bind fun y_11 =>
                some y_11)
              (some false))
          (some false))
      (some false)

noncomputable def impl_NextOf (s : TStructure) (i : Int) (j : Int) : Option (Int) :=
  (impl_Structure_isNode s i).bind fun y_1 =>
    cond y_1
      ((impl_Structure_isNode s j).bind fun y_5 =>
        cond y_5
          (cond (neI (s.next.length : Int) (mulI (s.nodes.length : Int) (s.nodes.length : Int)))
            (some 1)
            ((at? s.next (addI (mulI i (s.nodes.length : Int)) j)).bind fun e_10 =>
              some e_10))
          (some 1))
      (some 1)

noncomputable def impl_fitsSoFar (s : TStructure) (t : TStructure) (to_ : (List Int)) : Option (Bool) :=
  (at? to_ (subI (to_.length : Int) 1)).bind fun e_1 =>
    (impl_Structure_isNode t e_1).bind fun y_6 =>
      cond y_6
        ((at? s.nodes (subI (to_.length : Int) 1)).bind fun e_10 =>
          (at? to_ (subI (to_.length : Int) 1)).bind fun _ =>
            (at? t.nodes e_1).bind fun e_20 =>
              (impl_isWithinNode e_10 e_20).bind fun y_25 =>
                cond y_25
                  ((iter (ρ := (Unit) ⊕ (Unit)) (fun s_29 : Int =>
                      cond (ltI s_29 (to_.length : Int))
                        ((at? to_ s_29).bind fun e_45 =>
                          cond (ltI s_29 (subI (to_.length : Int) 1))
                            ((at? to_ (subI (to_.length : Int) 1)).bind fun _ =>
                              cond (eqI e_45 e_1)
                                ((at? t.nodes e_45).bind fun e_57 =>
                                  cond (neI e_57.many 1)
                                    (some (.inr (.inl ())))
                                    ((impl_NextOf s (subI (to_.length : Int) 1) s_29).bind fun y_63 =>
                                      (at? to_ (subI (to_.length : Int) 1)).bind fun _ =>
                                        (impl_NextOf t e_1 e_45).bind fun y_71 =>
                                          (impl_IsWithin y_63 y_71).bind fun y_74 =>
                                            cond y_74
                                              ((impl_NextOf s s_29 (subI (to_.length : Int) 1)).bind fun y_78 =>
                                                (at? to_ (subI (to_.length : Int) 1)).bind fun _ =>
                                                  (impl_NextOf t e_45 e_1).bind fun y_86 =>
                                                    (impl_IsWithin y_78 y_86).bind fun y_89 =>
                                                      cond y_89
                                                        (some (.inl (addI s_29 1)))
                                                        (some (.inr (.inl ()))))
                                              (some (.inr (.inl ())))))
                                ((impl_NextOf s (subI (to_.length : Int) 1) s_29).bind fun y_93 =>
                                  (at? to_ (subI (to_.length : Int) 1)).bind fun _ =>
                                    (impl_NextOf t e_1 e_45).bind fun y_101 =>
                                      (impl_IsWithin y_93 y_101).bind fun y_104 =>
                                        cond y_104
                                          ((impl_NextOf s s_29 (subI (to_.length : Int) 1)).bind fun y_108 =>
                                            (at? to_ (subI (to_.length : Int) 1)).bind fun _ =>
                                              (impl_NextOf t e_45 e_1).bind fun y_116 =>
                                                (impl_IsWithin y_108 y_116).bind fun y_119 =>
                                                  cond y_119
                                                    (some (.inl (addI s_29 1)))
                                                    (some (.inr (.inl ()))))
                                          (some (.inr (.inl ())))))
                            ((impl_NextOf s (subI (to_.length : Int) 1) s_29).bind fun y_123 =>
                              (at? to_ (subI (to_.length : Int) 1)).bind fun _ =>
                                (impl_NextOf t e_1 e_45).bind fun y_131 =>
                                  (impl_IsWithin y_123 y_131).bind fun y_134 =>
                                    cond y_134
                                      ((impl_NextOf s s_29 (subI (to_.length : Int) 1)).bind fun y_138 =>
                                        (at? to_ (subI (to_.length : Int) 1)).bind fun _ =>
                                          (impl_NextOf t e_45 e_1).bind fun y_146 =>
                                            (impl_IsWithin y_138 y_146).bind fun y_149 =>
                                              cond y_149
                                                (some (.inl (addI s_29 1)))
                                                (some (.inr (.inl ()))))
                                      (some (.inr (.inl ())))))
                        (some (.inr (.inr ())))) 0).bind fun r_153 =>
                    Sum.elim (fun _r_153 =>
                        some false)
                      (fun _r_153 =>
                        some true) r_153)
                  (some false))
        (some false)

noncomputable def B_impl_FindEmbedding_1 (self : (List Int) → TStructure → TStructure → Option ((List Int) × Bool)) (to_ : (List Int)) (c0 : TStructure) (c1 : TStructure) : Option ((List Int) × Bool) :=
  cond (eqI (to_.length : Int) (c0.nodes.length : Int))
    ((impl_isOnto c1 to_).bind fun y_2 =>
      some (to_, y_2))
    ((iter (ρ := ((List Int) × Bool) ⊕ (Unit)) (fun s_5 : Int =>
        cond (ltI s_5 (c1.nodes.length : Int))
          ((slices_Clone_int to_).bind fun y_23 =>
            (room (y_23.length + [s_5].length) 8).bind fun _ =>
              (impl_fitsSoFar c0 c1 (y_23 ++ [s_5])).bind fun y_28 =>
                cond y_28
                  ((self (y_23 ++ [s_5]) c0 c1).bind fun y_32 =>
                    cond y_32.2
                      (some (.inr (.inl (y_32.1, true))))
                      (some (.inl (addI s_5 1))))
                  (some (.inl (addI s_5 1))))
          (some (.inr (.inr ())))) 0).bind fun r_36 =>
      Sum.elim (fun r_36 =>
          some (r_36.1, r_36.2))
        (fun _r_36 =>
          some ([], false)) r_36)
noncomputable def R_impl_FindEmbedding_1 : (((List Int) × TStructure × TStructure × Unit) → Option ((List Int) × Bool)) → ((List Int) × TStructure × TStructure × Unit) → Option ((List Int) × Bool) := fun self x => B_impl_FindEmbedding_1 (fun to_ c0 c1 => self (to_, c0, c1, ())) x.1 x.2.1 x.2.2.1
noncomputable def impl_FindEmbedding_1 (to_ : (List Int)) (c0 : TStructure) (c1 : TStructure) : Option ((List Int) × Bool) := fixO R_impl_FindEmbedding_1 (to_, c0, c1, ())
set_option maxRecDepth 100000 in
theorem R_impl_FindEmbedding_1_mono : ∀ f g : ((List Int) × TStructure × TStructure × Unit) → Option ((List Int) × Bool), (∀ x, Le (f x) (g x)) → ∀ x, Le (R_impl_FindEmbedding_1 f x) (R_impl_FindEmbedding_1 g x) := by
  intro f g h x
  unfold R_impl_FindEmbedding_1 B_impl_FindEmbedding_1
  repeat' (first | with_reducible exact Le.refl _ | with_reducible exact h _ | refine Le.bind ?_ (fun _ => ?_) | refine Le.cond ?_ ?_ | refine Le.iter (fun _ => ?_) _ | refine Le.elim (fun _ => ?_) (fun _ => ?_))

noncomputable def impl_FindEmbedding (s : TStructure) (t : TStructure) : Option ((List Int) × Bool) :=
  (impl_FindEmbedding_1 [] s t).bind fun y_1 =>
    cond y_1.2
      (some (y_1.1, true))
      (some ([], false))

noncomputable def impl_IsEmbedded (s : TStructure) (t : TStructure) : Option (Bool) :=
  (impl_FindEmbedding s t).bind fun y_1 =>
    some y_1.2

noncomputable def slices_IndexFunc_Structure (s : (List TStructure)) (f_ : (TStructure → Option (Bool))) : Option (Int) :=
  (iter (ρ := (Int) ⊕ (Unit)) (fun s_1 : Int =>
      cond (ltI s_1 (s.length : Int))
        ((at? s s_1).bind fun e_12 =>
          (f_ e_12).bind fun y_17 =>
            cond y_17
              (some (.inr (.inl s_1)))
              (some (.inl (addI s_1 1))))
        (some (.inr (.inr ())))) 0).bind fun r_20 =>
    Sum.elim (fun r_20 =>
        some r_20)
      (fun _r_20 =>
        some (-1)) r_20

noncomputable def slices_ContainsFunc_Structure (s : (List TStructure)) (f_ : (TStructure → Option (Bool))) : Option (Bool) :=
  (slices_IndexFunc_Structure s f_).bind fun y_1 =>
    some (leI 0 y_1)

noncomputable def impl_Covers_1 (t : TStructure) (c0 : TStructure) : Option (Bool) :=
  (impl_IsEmbedded c0 t).bind fun y_1 =>
    some y_1

noncomputable def impl_Covers (set : (List TStructure)) (s : TStructure) : Option (Bool) :=
  (slices_ContainsFunc_Structure set (fun x0 => impl_Covers_1 x0 s)).bind fun y_1 =>
    some y_1

noncomputable def impl_SetDescribes (set : (List TStructure)) (h_ : THeap) : Option (Bool) :=
  (impl_StructureOf h_).bind fun y_1 =>
    (impl_Covers set y_1).bind fun y_4 =>
      some y_4

noncomputable def impl_lists (many : Int) (bound : Int) : Option ((List (List Int))) :=
  (iter (ρ := (List (List Int))) (fun s_1 : (List (List Int)) × Int =>
      cond (ltI s_1.2 many)
        ((iter (ρ := (List (List Int))) (fun s_12 : (List (List Int)) × Int =>
            cond (ltI s_12.2 (s_1.1.length : Int))
              ((at? s_1.1 s_12.2).bind fun e_26 =>
                (iter (ρ := (List (List Int))) (fun s_31 : (List (List Int)) × Int =>
                    cond (ltI s_31.2 bound)
                      ((slices_Clone_int e_26).bind fun y_47 =>
                        (room (y_47.length + [s_31.2].length) 8).bind fun _ =>
                          (room (s_31.1.length + [y_47 ++ [s_31.2]].length) 24).bind fun _ =>
                            some (.inl (s_31.1 ++ [y_47 ++ [s_31.2]], addI s_31.2 1)))
                      (some (.inr s_31.1))) (s_12.1, (-1))).bind fun r_54 =>
                  some (.inl (r_54, addI s_12.2 1)))
              (some (.inr s_12.1))) ([], 0)).bind fun r_65 =>
          some (.inl (r_65, addI s_1.2 1)))
        (some (.inr s_1.1))) ([[]], 0)).bind fun r_73 =>
    some r_73

noncomputable def impl_Heap_isCyclic (h_ : THeap) : Option (Bool) :=
  (iter (ρ := (Bool) ⊕ (Unit)) (fun s_1 : Int =>
      cond (ltI s_1 (h_.next.length : Int))
        ((at? h_.next s_1).bind fun e_12 =>
          (impl_Followed h_ e_12).bind fun y_17 =>
            (slices_Contains_int y_17 s_1).bind fun y_20 =>
              cond y_20
                (some (.inr (.inl true)))
                (some (.inl (addI s_1 1))))
        (some (.inr (.inr ())))) 0).bind fun r_24 =>
    Sum.elim (fun r_24 =>
        some r_24)
      (fun _r_24 =>
        some false) r_24

noncomputable def impl_Heap_met (h_ : THeap) : Option ((List Int)) :=
  (iter (ρ := (List Int)) (fun s_1 : (List Int) × Int =>
      cond (ltI s_1.2 (h_.vars.length : Int))
        ((at? h_.vars s_1.2).bind fun e_14 =>
          (impl_Followed h_ e_14).bind fun y_19 =>
            (iter (ρ := (List Int)) (fun s_22 : Int × (List Int) =>
                cond (ltI s_22.1 (y_19.length : Int))
                  ((at? y_19 s_22.1).bind fun e_38 =>
                    (slices_Contains_int s_22.2 e_38).bind fun y_43 =>
                      cond y_43
                        (some (.inl (addI s_22.1 1, s_22.2)))
                        ((room (s_22.2.length + [e_38].length) 8).bind fun _ =>
                          some (.inl (addI s_22.1 1, s_22.2 ++ [e_38]))))
                  (some (.inr s_22.2))) (0, s_1.1)).bind fun r_49 =>
              some (.inl (r_49, addI s_1.2 1)))
        (some (.inr s_1.1))) ([], 0)).bind fun r_59 =>
    some r_59

noncomputable def impl_IsHeap (vars : Int) (h_ : THeap) : Option (Bool) :=
  (impl_within vars 1 4).bind fun y_1 =>
    cond y_1
      (cond (neI (h_.vars.length : Int) vars)
        (some false)
        (cond (ltI 6 (h_.next.length : Int))
          (some false)
          ((impl_Heap_areCells h_).bind fun y_7 =>
            cond y_7
              ((impl_Heap_isCyclic h_).bind fun y_11 =>
                cond y_11
                  (some false)
                  ((impl_Heap_met h_).bind fun y_15 =>
                    (iter (ρ := (Unit) ⊕ (Unit)) (fun s_18 : Int =>
                        cond (ltI s_18 (y_15.length : Int))
                          ((at? y_15 s_18).bind fun e_31 =>
                            cond (neI e_31 s_18)
                              (some (.inr (.inl ())))
                              (some (.inl (addI s_18 1))))
                          (some (.inr (.inr ())))) 0).bind fun r_37 =>
                      Sum.elim (fun _r_37 =>
                          some false)
                        (fun _r_37 =>
                          some (eqI (y_15.length : Int) (h_.next.length : Int))) r_37))
              (some false))))
      (some false)

noncomputable def impl_Heap_own (h_ : THeap) : Option (THeap) :=
  (slices_Clone_int h_.vars).bind fun y_1 =>
    (slices_Clone_int h_.next).bind fun y_4 =>
      some (⟨y_1, y_4⟩ : THeap)

noncomputable def impl_SmallHeaps (vars : Int) (cells : Int) : Option ((List THeap)) :=
  (impl_within vars 1 4).bind fun y_1 =>
    cond y_1
      ((impl_within cells 0 3).bind fun y_5 =>
        cond y_5
          ((iter (ρ := (List THeap)) (fun s_9 : (List THeap) × Int =>
              cond (ltI s_9.2 (addI cells 1))
                ((impl_lists vars s_9.2).bind fun y_20 =>
                  (iter (ρ := (List THeap)) (fun s_23 : (List THeap) × Int =>
                      cond (ltI s_23.2 (y_20.length : Int))
                        ((at? y_20 s_23.2).bind fun e_38 =>
                          (impl_lists s_9.2 s_9.2).bind fun y_43 =>
                            (iter (ρ := (List THeap)) (fun s_46 : (List THeap) × Int =>
                                cond (ltI s_46.2 (y_43.length : Int))
                                  ((at? y_43 s_46.2).bind fun e_65 =>
                                    (impl_IsHeap vars (⟨e_38, e_65⟩ : THeap)).bind fun y_71 =>
                                      cond y_71
                                        ((impl_Heap_own (⟨e_38, e_65⟩ : THeap)).bind fun y_75 =>
                                          (room (s_46.1.length + [y_75].length) 48).bind fun _ =>
                                            some (.inl (s_46.1 ++ [y_75], addI s_46.2 1)))
                                        (some (.inl (s_46.1, addI s_46.2 1))))
                                  (some (.inr s_46.1))) (s_23.1, 0)).bind fun r_80 =>
                              some (.inl (r_80, addI s_23.2 1)))
                        (some (.inr s_23.1))) (s_9.1, 0)).bind fun r_92 =>
                    some (.inl (r_92, addI s_9.2 1)))
                (some (.inr s_9.1))) ([], 0)).bind fun r_100 =>
            some r_100)
          (some []))
      (some [])

noncomputable def impl_described (vars : Int) (cells : Int) (accept : (THeap → Option (Bool))) : Option ((List THeap)) :=
  (impl_SmallHeaps vars cells).bind fun y_1 =>
    (iter (ρ := (List THeap) × Int) (fun s_4 : (List THeap) × Int × Int =>
        cond (ltI s_4.2.1 (y_1.length : Int))
          ((at? y_1 s_4.2.1).bind fun e_19 =>
            (takeI s_4.2.1 s_4.2.2).bind fun _ =>
              (accept e_19).bind fun y_28 =>
                cond y_28
                  ((room (s_4.1.length + [e_19].length) 48).bind fun _ =>
                    some (.inl (s_4.1 ++ [e_19], addI s_4.2.1 1, s_4.2.2 + 1)))
                  (some (.inl (s_4.1, addI s_4.2.1 1, s_4.2.2 + 1))))
          (some (.inr (s_4.1, s_4.2.2)))) ([], 0, 0)).bind fun r_33 =>
      some r_33.1

noncomputable def impl_SmallHeapsOf_1 (h_ : THeap) (c0 : (List TStructure)) : Option (Bool) :=
  (impl_SetDescribes c0 h_).bind fun y_1 =>
    some y_1

noncomputable def impl_SmallHeapsOf (vars : Int) (set : (List TStructure)) (cells : Int) : Option ((List THeap)) :=
  (impl_described vars cells (fun x0 => impl_SmallHeapsOf_1 x0 set)).bind fun y_1 =>
    some y_1

noncomputable def impl_LeastHeap (vars : Int) (s : TStructure) : Option (THeap × Bool) :=
  (impl_SmallHeapsOf vars [s] 3).bind fun y_1 =>
    cond (eqI (y_1.length : Int) 0)
      (some ((⟨[], []⟩ : THeap), false))
      ((at? y_1 0).bind fun e_5 =>
        (takeI 0 0).bind fun _ =>
          some (e_5, true))

noncomputable def laws_eqIntS (a_ : (List Int)) (b_ : (List Int)) : Option (Bool) :=
  cond (neI (a_.length : Int) (b_.length : Int))
    (some false)
    ((iter (ρ := (Unit) ⊕ (Unit)) (fun s_2 : Int =>
        cond (ltI s_2 (a_.length : Int))
          ((at? a_ s_2).bind fun e_12 =>
            (at? b_ s_2).bind fun e_17 =>
              cond (neI e_12 e_17)
                (some (.inr (.inl ())))
                (some (.inl (addI s_2 1))))
          (some (.inr (.inr ())))) 0).bind fun r_23 =>
      Sum.elim (fun _r_23 =>
          some false)
        (fun _r_23 =>
          some true) r_23)

noncomputable def laws_eqHeap (a_ : THeap) (b_ : THeap) : Option (Bool) :=
  (laws_eqIntS a_.vars b_.vars).bind fun y_1 =>
    cond y_1
      ((laws_eqIntS a_.next b_.next).bind fun y_5 =>
        cond y_5
          (some true)
          (some false))
      (some false)

noncomputable def laws_eqNode (a_ : TNode) (b_ : TNode) : Option (Bool) :=
  (laws_eqIntS a_.vars b_.vars).bind fun y_1 =>
    cond y_1
      ((laws_eqIntS a_.reach b_.reach).bind fun y_5 =>
        cond y_5
          (cond (neI a_.shared b_.shared)
            (some false)
            (cond (neI a_.many b_.many)
              (some false)
              (some true)))
          (some false))
      (some false)

noncomputable def laws_eqNodeS (a_ : (List TNode)) (b_ : (List TNode)) : Option (Bool) :=
  cond (neI (a_.length : Int) (b_.length : Int))
    (some false)
    ((iter (ρ := (Unit) ⊕ (Unit)) (fun s_2 : Int =>
        cond (ltI s_2 (a_.length : Int))
          ((at? a_ s_2).bind fun e_12 =>
            (at? b_ s_2).bind fun e_17 =>
              (laws_eqNode e_12 e_17).bind fun y_22 =>
                cond y_22
                  (some (.inl (addI s_2 1)))
                  (some (.inr (.inl ()))))
          (some (.inr (.inr ())))) 0).bind fun r_26 =>
      Sum.elim (fun _r_26 =>
          some false)
        (fun _r_26 =>
          some true) r_26)

noncomputable def laws_eqStructure (a_ : TStructure) (b_ : TStructure) : Option (Bool) :=
  (laws_eqNodeS a_.nodes b_.nodes).bind fun y_1 =>
    cond y_1
      ((laws_eqIntS a_.next b_.next).bind fun y_5 =>
        cond y_5
          (some true)
          (some false))
      (some false)

noncomputable def laws_heldIntS (a_ : (List Int)) (k_ : Int) : Option (Int) :=
  (iter (ρ := (Int) ⊕ (Int)) (fun s_1 : Int × Int =>
      cond (ltI s_1.2 (a_.length : Int))
        ((at? a_ s_1.2).bind fun e_11 =>
          cond (neI e_11 s_1.1)
            (some (.inr (.inl (-1))))
            (some (.inl (addI s_1.1 1, addI s_1.2 1))))
        (some (.inr (.inr s_1.1)))) (k_, 0)).bind fun r_17 =>
    Sum.elim (fun r_17 =>
        some r_17)
      (fun r_17 =>
        some r_17) r_17

noncomputable def laws_heldHeap (a_ : THeap) (k_ : Int) : Option (Int) :=
  (laws_heldIntS a_.vars k_).bind fun y_1 =>
    cond (ltI y_1 0)
      (some (-1))
      ((laws_heldIntS a_.next y_1).bind fun y_5 =>
        cond (ltI y_5 0)
          (some (-1))
          (some y_5))

noncomputable def laws_FnExactLeastHeap (aVars : Int) (aS : TStructure) : Option (Bool) :=
  (laws_szStructure aS 1048576).bind fun y_1 =>
    cond (ltI y_1 0)
      (some true)
      ((laws_toStructure aS).bind fun y_5 =>
        (spec_LeastHeap aVars y_5).bind fun y_8 =>
          (laws_toStructure aS).bind fun _ =>
            (impl_LeastHeap aVars y_5).bind fun y_13 =>
              (laws_eqHeap y_13.1 y_8.1).bind fun y_16 =>
                cond y_16
                  (cond (neB y_13.2 y_8.2)
                    (some false)
                    ((laws_toStructure aS).bind fun _ =>
                      (laws_eqStructure y_5 y_5).bind fun y_23 =>
                        cond y_23
                          ((markO mkF_markStructure y_5 1).bind fun r_27 =>
                            cond (ltI r_27.2 0)
                              (some false)
                              ((laws_eqHeap y_13.1 y_8.1).bind fun y_76 =>
                                cond y_76
                                  ((markO mkF_markHeap y_13.1 1).bind fun r_80 =>
                                    (laws_heldHeap r_80.1 1).bind fun y_140 =>
                                      cond (ltI y_140 0)
                                        (some false)
                                        (cond (neI y_140 r_80.2)
                                          (some false)
                                          ((laws_toStructure aS).bind fun y_145 =>
                                            (impl_LeastHeap aVars y_145).bind fun y_148 =>
                                              (laws_eqHeap y_148.1 y_8.1).bind fun y_152 =>
                                                cond y_152
                                                  (cond (neB y_148.2 y_8.2)
                                                    (some false)
                                                    ((laws_heldHeap r_80.1 1).bind fun _ =>
                                                      some true))
                                                  (some false))))
                                  (some false)))
                          (some false)))
                  (some false))

noncomputable def laws_szStructureS (a_ : (List TStructure)) (left : Int) : Option (Int) :=
  cond (ltI (subI left (a_.length : Int)) 0)
    (some (-1))
    ((iter (ρ := (Int) ⊕ (Int)) (fun s_2 : Int × Int =>
        cond (ltI s_2.2 (a_.length : Int))
          ((at? a_ s_2.2).bind fun e_12 =>
            (laws_szStructure e_12 s_2.1).bind fun y_17 =>
              cond (ltI y_17 0)
                (some (.inr (.inl (-1))))
                (some (.inl (y_17, addI s_2.2 1))))
          (some (.inr (.inr s_2.1)))) (subI left (a_.length : Int), 0)).bind fun r_21 =>
      Sum.elim (fun r_21 =>
          some r_21)
        (fun r_21 =>
          some r_21) r_21)

noncomputable def laws_toStructureS (a_ : (List TStructure)) : Option ((List TStructure)) :=
  (roomI (a_.length : Int) 48).bind fun _ =>
    (iter (ρ := (List TStructure)) (fun s_5 : Int × (List TStructure) =>
        cond (ltI s_5.1 (a_.length : Int))
          ((at? a_ s_5.1).bind fun e_16 =>
            (laws_toStructure e_16).bind fun y_21 =>
              (at? s_5.2 s_5.1).bind fun e_24 =>
                some (.inl (addI s_5.1 1, s_5.2.set s_5.1.toNat y_21)))
          (some (.inr s_5.2))) (0, List.replicate (a_.length : Int).toNat ((⟨[], []⟩ : TStructure) : TStructure))).bind fun r_30 =>
      some r_30

noncomputable def laws_eqHeapS (a_ : (List THeap)) (b_ : (List THeap)) : Option (Bool) :=
  cond (neI (a_.length : Int) (b_.length : Int))
    (some false)
    ((iter (ρ := (Unit) ⊕ (Unit)) (fun s_2 : Int =>
        cond (ltI s_2 (a_.length : Int))
          ((at? a_ s_2).bind fun e_12 =>
            (at? b_ s_2).bind fun e_17 =>
              (laws_eqHeap e_12 e_17).bind fun y_22 =>
                cond y_22
                  (some (.inl (addI s_2 1)))
                  (some (.inr (.inl ()))))
          (some (.inr (.inr ())))) 0).bind fun r_26 =>
      Sum.elim (fun _r_26 =>
          some false)
        (fun _r_26 =>
          some true) r_26)

noncomputable def laws_eqStructureS (a_ : (List TStructure)) (b_ : (List TStructure)) : Option (Bool) :=
  cond (neI (a_.length : Int) (b_.length : Int))
    (some false)
    ((iter (ρ := (Unit) ⊕ (Unit)) (fun s_2 : Int =>
        cond (ltI s_2 (a_.length : Int))
          ((at? a_ s_2).bind fun e_12 =>
            (at? b_ s_2).bind fun e_17 =>
              (laws_eqStructure e_12 e_17).bind fun y_22 =>
                cond y_22
                  (some (.inl (addI s_2 1)))
                  (some (.inr (.inl ()))))
          (some (.inr (.inr ())))) 0).bind fun r_26 =>
      Sum.elim (fun _r_26 =>
          some false)
        (fun _r_26 =>
          some true) r_26)

noncomputable def laws_heldHeapS (a_ : (List THeap)) (k_ : Int) : Option (Int) :=
  (iter (ρ := (Int) ⊕ (Int)) (fun s_1 : Int × Int =>
      cond (ltI s_1.2 (a_.length : Int))
        ((at? a_ s_1.2).bind fun e_11 =>
          (laws_heldIntS e_11.vars s_1.1).bind fun y_16 =>
            cond (ltI y_16 0)
              (some (.inr (.inl (-1))))
              ((at? a_ s_1.2).bind fun _ =>
                (laws_heldIntS e_11.next y_16).bind fun y_25 =>
                  cond (ltI y_25 0)
                    (some (.inr (.inl (-1))))
                    (some (.inl (y_25, addI s_1.2 1)))))
        (some (.inr (.inr s_1.1)))) (k_, 0)).bind fun r_29 =>
    Sum.elim (fun r_29 =>
        some r_29)
      (fun r_29 =>
        some r_29) r_29

end Go.Ev

