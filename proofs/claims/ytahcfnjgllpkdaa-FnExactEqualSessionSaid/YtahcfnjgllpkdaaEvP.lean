import Derived.Test.YtahcfnjgllpkdaaEvAgg
namespace Go.Ev
noncomputable def laws_szStringS (a_ : (List ByteArray)) (left : Int) : Option (Int) :=
  cond (ltI (subI left (a_.length : Int)) 0)
    (some (-1))
    ((iter (ρ := (Int) ⊕ (Int)) (fun s_2 : Int × Int =>
        cond (ltI s_2.2 (a_.length : Int))
          ((at? a_ s_2.2).bind fun e_12 =>
            cond (ltI (subI s_2.1 (e_12.size : Int)) 0)
              (some (.inr (.inl (-1))))
              (some (.inl (subI s_2.1 (e_12.size : Int), addI s_2.2 1))))
          (some (.inr (.inr s_2.1)))) (subI left (a_.length : Int), 0)).bind fun r_18 =>
      Sum.elim (fun r_18 =>
          some r_18)
        (fun r_18 =>
          some r_18) r_18)

noncomputable def laws_szStmt (a_ : TStmt) (left : Int) : Option (Int) :=
  cond (ltI (subI left (a_.a.size : Int)) 0)
    (some (-1))
    (cond (ltI (subI (subI left (a_.a.size : Int)) (a_.b.size : Int)) 0)
      (some (-1))
      (some (subI (subI left (a_.a.size : Int)) (a_.b.size : Int))))

noncomputable def laws_szEdge (a_ : TEdge) (left : Int) : Option (Int) :=
  (laws_szStmt a_.stmt left).bind fun y_1 =>
    cond (ltI y_1 0)
      (some (-1))
      (some y_1)

noncomputable def laws_szEdgeS (a_ : (List TEdge)) (left : Int) : Option (Int) :=
  cond (ltI (subI left (a_.length : Int)) 0)
    (some (-1))
    ((iter (ρ := (Int) ⊕ (Int)) (fun s_2 : Int × Int =>
        cond (ltI s_2.2 (a_.length : Int))
          ((at? a_ s_2.2).bind fun e_12 =>
            (laws_szEdge e_12 s_2.1).bind fun y_17 =>
              cond (ltI y_17 0)
                (some (.inr (.inl (-1))))
                (some (.inl (y_17, addI s_2.2 1))))
          (some (.inr (.inr s_2.1)))) (subI left (a_.length : Int), 0)).bind fun r_21 =>
      Sum.elim (fun r_21 =>
          some r_21)
        (fun r_21 =>
          some r_21) r_21)

noncomputable def laws_szProgram (a_ : TProgram) (left : Int) : Option (Int) :=
  (laws_szStringS a_.vars left).bind fun y_1 =>
    cond (ltI y_1 0)
      (some (-1))
      ((laws_szEdgeS a_.edges y_1).bind fun y_5 =>
        cond (ltI y_5 0)
          (some (-1))
          (some y_5))

noncomputable def laws_szIntS (a_ : (List Int)) (left : Int) : Option (Int) :=
  cond (ltI (subI left (a_.length : Int)) 0)
    (some (-1))
    (some (subI left (a_.length : Int)))

noncomputable def laws_szHeap (a_ : THeap) (left : Int) : Option (Int) :=
  (laws_szIntS a_.vars left).bind fun y_1 =>
    cond (ltI y_1 0)
      (some (-1))
      ((laws_szIntS a_.next y_1).bind fun y_5 =>
        cond (ltI y_5 0)
          (some (-1))
          (some y_5))

noncomputable def laws_szHeapS (a_ : (List THeap)) (left : Int) : Option (Int) :=
  cond (ltI (subI left (a_.length : Int)) 0)
    (some (-1))
    ((iter (ρ := (Int) ⊕ (Int)) (fun s_2 : Int × Int =>
        cond (ltI s_2.2 (a_.length : Int))
          ((at? a_ s_2.2).bind fun e_12 =>
            (laws_szHeap e_12 s_2.1).bind fun y_17 =>
              cond (ltI y_17 0)
                (some (.inr (.inl (-1))))
                (some (.inl (y_17, addI s_2.2 1))))
          (some (.inr (.inr s_2.1)))) (subI left (a_.length : Int), 0)).bind fun r_21 =>
      Sum.elim (fun r_21 =>
          some r_21)
        (fun r_21 =>
          some r_21) r_21)

noncomputable def laws_szSession (a_ : TSession) (left : Int) : Option (Int) :=
  (laws_szProgram a_.prog left).bind fun y_1 =>
    cond (ltI y_1 0)
      (some (-1))
      ((laws_szHeapS a_.start y_1).bind fun y_5 =>
        cond (ltI y_5 0)
          (some (-1))
          (some y_5))

noncomputable def laws_toStringS (a_ : (List ByteArray)) : Option ((List ByteArray)) :=
  (roomI (a_.length : Int) 16).bind fun _ =>
    (iter (ρ := (List ByteArray)) (fun s_5 : Int × (List ByteArray) =>
        cond (ltI s_5.1 (a_.length : Int))
          ((at? a_ s_5.1).bind fun e_16 =>
            (at? s_5.2 s_5.1).bind fun e_21 =>
              some (.inl (addI s_5.1 1, s_5.2.set s_5.1.toNat e_16)))
          (some (.inr s_5.2))) (0, List.replicate (a_.length : Int).toNat (ByteArray.empty : ByteArray))).bind fun r_27 =>
      some r_27

noncomputable def laws_toStmt (a_ : TStmt) : Option (TStmt) :=
  some a_

noncomputable def laws_toEdge (a_ : TEdge) : Option (TEdge) :=
  (laws_toStmt a_.stmt).bind fun y_1 =>
    some (⟨a_.from_, a_.to_, y_1⟩ : TEdge)

noncomputable def laws_toEdgeS (a_ : (List TEdge)) : Option ((List TEdge)) :=
  (roomI (a_.length : Int) 56).bind fun _ =>
    (iter (ρ := (List TEdge)) (fun s_5 : Int × (List TEdge) =>
        cond (ltI s_5.1 (a_.length : Int))
          ((at? a_ s_5.1).bind fun e_16 =>
            (laws_toEdge e_16).bind fun y_21 =>
              (at? s_5.2 s_5.1).bind fun e_24 =>
                some (.inl (addI s_5.1 1, s_5.2.set s_5.1.toNat y_21)))
          (some (.inr s_5.2))) (0, List.replicate (a_.length : Int).toNat ((⟨0, 0, (⟨0, ByteArray.empty, ByteArray.empty⟩ : TStmt)⟩ : TEdge) : TEdge))).bind fun r_30 =>
      some r_30

noncomputable def laws_toProgram (a_ : TProgram) : Option (TProgram) :=
  (laws_toStringS a_.vars).bind fun y_1 =>
    (laws_toEdgeS a_.edges).bind fun y_4 =>
      some (⟨y_1, a_.points, y_4⟩ : TProgram)

noncomputable def laws_toIntS (a_ : (List Int)) : Option ((List Int)) :=
  (roomI (a_.length : Int) 8).bind fun _ =>
    (iter (ρ := (List Int)) (fun s_5 : Int × (List Int) =>
        cond (ltI s_5.1 (a_.length : Int))
          ((at? a_ s_5.1).bind fun e_16 =>
            (at? s_5.2 s_5.1).bind fun e_21 =>
              some (.inl (addI s_5.1 1, s_5.2.set s_5.1.toNat e_16)))
          (some (.inr s_5.2))) (0, List.replicate (a_.length : Int).toNat (0 : Int))).bind fun r_27 =>
      some r_27

noncomputable def laws_toHeap (a_ : THeap) : Option (THeap) :=
  (laws_toIntS a_.vars).bind fun y_1 =>
    (laws_toIntS a_.next).bind fun y_4 =>
      some (⟨y_1, y_4⟩ : THeap)

noncomputable def laws_toHeapS (a_ : (List THeap)) : Option ((List THeap)) :=
  (roomI (a_.length : Int) 48).bind fun _ =>
    (iter (ρ := (List THeap)) (fun s_5 : Int × (List THeap) =>
        cond (ltI s_5.1 (a_.length : Int))
          ((at? a_ s_5.1).bind fun e_16 =>
            (laws_toHeap e_16).bind fun y_21 =>
              (at? s_5.2 s_5.1).bind fun e_24 =>
                some (.inl (addI s_5.1 1, s_5.2.set s_5.1.toNat y_21)))
          (some (.inr s_5.2))) (0, List.replicate (a_.length : Int).toNat ((⟨[], []⟩ : THeap) : THeap))).bind fun r_30 =>
      some r_30

noncomputable def laws_toSession (a_ : TSession) : Option (TSession) :=
  (laws_toProgram a_.prog).bind fun y_1 =>
    (laws_toHeapS a_.start).bind fun y_4 =>
      some (⟨y_1, y_4⟩ : TSession)

noncomputable def spec_EqualProgram (code_toArray : TProgram) (a1 : TProgram) : Option (Bool) :=
  cond (neI code_toArray.points a1.points)
    (some false)
    (cond (neI (code_toArray.vars.length : Int) (a1.vars.length : Int))
      (some false)
      (cond (neI (code_toArray.edges.length : Int) (a1.edges.length : Int))
        (some false)
        ((iter (ρ := (Unit) ⊕ (Unit)) (fun s_4 : Int =>
            cond (ltI s_4 (code_toArray.vars.length : Int))
              ((at? code_toArray.vars s_4).bind fun e_16 =>
                (at? a1.vars s_4).bind fun e_21 =>
                  cond (neS e_16 e_21)
                    (some (.inr (.inl ())))
                    (some (.inl (addI s_4 1))))
              (some (.inr (.inr ())))) 0).bind fun r_27 =>
          Sum.elim (fun _r_27 =>
              some false)
            (fun _r_27 =>
              (iter (ρ := (Bool) ⊕ (Unit)) (fun s_40 : Int =>
                  cond (ltI s_40 (code_toArray.edges.length : Int))
                    ((at? code_toArray.edges s_40).bind fun e_52 =>
                      (at? a1.edges s_40).bind fun e_57 =>
                        cond (neTEdge e_52 e_57)
                          (some (.inr (.inl false)))
                          (some (.inl (addI s_40 1))))
                    (some (.inr (.inr ())))) 0).bind fun r_64 =>
                Sum.elim (fun r_64 =>
                    some r_64)
                  (fun _r_64 =>
                    some true) r_64) r_27)))

noncomputable def spec_l7Same (a_ : (List Int)) (b : (List Int)) : Option (Bool) :=
  cond (neI (a_.length : Int) (b.length : Int))
    (some false)
    ((iter (ρ := (Unit) ⊕ (Unit)) (fun s_2 : Int =>
        cond (ltI s_2 (a_.length : Int))
          ((at? a_ s_2).bind fun e_12 =>
            (at? b s_2).bind fun e_17 =>
              cond (neI e_12 e_17)
                (some (.inr (.inl ())))
                (some (.inl (addI s_2 1))))
          (some (.inr (.inr ())))) 0).bind fun r_23 =>
      Sum.elim (fun _r_23 =>
          some false)
        (fun _r_23 =>
          some true) r_23)

noncomputable def spec_EqualHeap (a_ : THeap) (b : THeap) : Option (Bool) :=
  (spec_l7Same a_.vars b.vars).bind fun y_1 =>
    cond y_1
      ((spec_l7Same a_.next b.next).bind fun y_5 =>
        some y_5)
      (some false)

noncomputable def spec_EqualSession (a_ : TSession) (b : TSession) : Option (Bool) :=
  (spec_EqualProgram a_.prog b.prog).bind fun y_1 =>
    cond y_1
      (cond (neI (a_.start.length : Int) (b.start.length : Int))
        (some false)
        ((iter (ρ := (Unit) ⊕ (Unit)) (fun s_6 : Int =>
            cond (ltI s_6 (a_.start.length : Int))
              ((at? a_.start s_6).bind fun e_18 =>
                (at? b.start s_6).bind fun e_23 =>
                  (spec_EqualHeap e_18 e_23).bind fun y_28 =>
                    cond y_28
                      (some (.inl (addI s_6 1)))
                      (some (.inr (.inl ()))))
              (some (.inr (.inr ())))) 0).bind fun r_32 =>
          Sum.elim (fun _r_32 =>
              some false)
            (fun _r_32 =>
              some true) r_32))
      (some false)

noncomputable def slices_Equal_string (s1 : (List ByteArray)) (s2 : (List ByteArray)) : Option (Bool) :=
  cond (neI (s1.length : Int) (s2.length : Int))
    (some false)
    ((iter (ρ := (Unit) ⊕ (Unit)) (fun s_2 : Int =>
        cond (ltI s_2 (s1.length : Int))
          ((at? s1 s_2).bind fun e_13 =>
            (at? s2 s_2).bind fun e_18 =>
              cond (neS e_13 e_18)
                (some (.inr (.inl ())))
                (some (.inl (addI s_2 1))))
          (some (.inr (.inr ())))) 0).bind fun r_24 =>
      Sum.elim (fun _r_24 =>
          some false)
        (fun _r_24 =>
          some true) r_24)

noncomputable def slices_Equal_Edge (s1 : (List TEdge)) (s2 : (List TEdge)) : Option (Bool) :=
  cond (neI (s1.length : Int) (s2.length : Int))
    (some false)
    ((iter (ρ := (Unit) ⊕ (Unit)) (fun s_2 : Int =>
        cond (ltI s_2 (s1.length : Int))
          ((at? s1 s_2).bind fun e_13 =>
            (at? s2 s_2).bind fun e_18 =>
              cond (neTEdge e_13 e_18)
                (some (.inr (.inl ())))
                (some (.inl (addI s_2 1))))
          (some (.inr (.inr ())))) 0).bind fun r_25 =>
      Sum.elim (fun _r_25 =>
          some false)
        (fun _r_25 =>
          some true) r_25)

noncomputable def impl_EqualProgram (a_ : TProgram) (b : TProgram) : Option (Bool) :=
  (slices_Equal_string a_.vars b.vars).bind fun y_1 =>
    cond y_1
      (cond (eqI a_.points b.points)
        ((slices_Equal_Edge a_.edges b.edges).bind fun y_6 =>
          some y_6)
        (some false))
      (some false)

noncomputable def slices_EqualFunc_Heapimpl_Heap_impl_Heap_impl_Heap_ (s1 : (List THeap)) (s2 : (List THeap)) (eq : (THeap → THeap → Option (Bool))) : Option (Bool) :=
  cond (neI (s1.length : Int) (s2.length : Int))
    (some false)
    ((iter (ρ := (Unit) ⊕ (Unit)) (fun s_2 : Int =>
        cond (ltI s_2 (s1.length : Int))
          ((at? s1 s_2).bind fun e_16 =>
            (at? s2 s_2).bind fun e_22 =>
              (eq e_16 e_22).bind fun y_28 =>
                cond y_28
                  (some (.inl (addI s_2 1)))
                  (some (.inr (.inl ()))))
          (some (.inr (.inr ())))) 0).bind fun r_31 =>
      Sum.elim (fun _r_31 =>
          some false)
        (fun _r_31 =>
          some true) r_31)

noncomputable def slices_Equal_int (s1 : (List Int)) (s2 : (List Int)) : Option (Bool) :=
  cond (neI (s1.length : Int) (s2.length : Int))
    (some false)
    ((iter (ρ := (Unit) ⊕ (Unit)) (fun s_2 : Int =>
        cond (ltI s_2 (s1.length : Int))
          ((at? s1 s_2).bind fun e_13 =>
            (at? s2 s_2).bind fun e_18 =>
              cond (neI e_13 e_18)
                (some (.inr (.inl ())))
                (some (.inl (addI s_2 1))))
          (some (.inr (.inr ())))) 0).bind fun r_24 =>
      Sum.elim (fun _r_24 =>
          some false)
        (fun _r_24 =>
          some true) r_24)

noncomputable def impl_EqualHeap (a_ : THeap) (b : THeap) : Option (Bool) :=
  (slices_Equal_int a_.vars b.vars).bind fun y_1 =>
    cond y_1
      ((slices_Equal_int a_.next b.next).bind fun y_5 =>
        some y_5)
      (some false)

noncomputable def impl_EqualSession (a_ : TSession) (b : TSession) : Option (Bool) :=
  (impl_EqualProgram a_.prog b.prog).bind fun y_1 =>
    cond y_1
      ((slices_EqualFunc_Heapimpl_Heap_impl_Heap_impl_Heap_ a_.start b.start (fun x0 x1 => impl_EqualHeap x0 x1)).bind fun y_5 =>
        some y_5)
      (some false)

noncomputable def laws_eqStringS (a_ : (List ByteArray)) (b : (List ByteArray)) : Option (Bool) :=
  cond (neI (a_.length : Int) (b.length : Int))
    (some false)
    ((iter (ρ := (Unit) ⊕ (Unit)) (fun s_2 : Int =>
        cond (ltI s_2 (a_.length : Int))
          ((at? a_ s_2).bind fun e_12 =>
            (at? b s_2).bind fun e_17 =>
              cond (neS e_12 e_17)
                (some (.inr (.inl ())))
                (some (.inl (addI s_2 1))))
          (some (.inr (.inr ())))) 0).bind fun r_23 =>
      Sum.elim (fun _r_23 =>
          some false)
        (fun _r_23 =>
          some true) r_23)

noncomputable def laws_eqStmt (a_ : TStmt) (b : TStmt) : Option (Bool) :=
  cond (neI a_.kind b.kind)
    (some false)
    (cond (neS a_.a b.a)
      (some false)
      (cond (neS a_.b b.b)
        (some false)
        (some true)))

noncomputable def laws_eqEdge (a_ : TEdge) (b : TEdge) : Option (Bool) :=
  cond (neI a_.from_ b.from_)
    (some false)
    (cond (neI a_.to_ b.to_)
      (some false)
      ((laws_eqStmt a_.stmt b.stmt).bind fun y_3 =>
        cond y_3
          (some true)
          (some false)))

noncomputable def laws_eqEdgeS (a_ : (List TEdge)) (b : (List TEdge)) : Option (Bool) :=
  cond (neI (a_.length : Int) (b.length : Int))
    (some false)
    ((iter (ρ := (Unit) ⊕ (Unit)) (fun s_2 : Int =>
        cond (ltI s_2 (a_.length : Int))
          ((at? a_ s_2).bind fun e_12 =>
            (at? b s_2).bind fun e_17 =>
              (laws_eqEdge e_12 e_17).bind fun y_22 =>
                cond y_22
                  (some (.inl (addI s_2 1)))
                  (some (.inr (.inl ()))))
          (some (.inr (.inr ())))) 0).bind fun r_26 =>
      Sum.elim (fun _r_26 =>
          some false)
        (fun _r_26 =>
          some true) r_26)

noncomputable def laws_eqProgram (a_ : TProgram) (b : TProgram) : Option (Bool) :=
  (laws_eqStringS a_.vars b.vars).bind fun y_1 =>
    cond y_1
      (cond (neI a_.points b.points)
        (some false)
        ((laws_eqEdgeS a_.edges b.edges).bind fun y_6 =>
          cond y_6
            (some true)
            (some false)))
      (some false)

noncomputable def laws_eqIntS (a_ : (List Int)) (b : (List Int)) : Option (Bool) :=
  cond (neI (a_.length : Int) (b.length : Int))
    (some false)
    ((iter (ρ := (Unit) ⊕ (Unit)) (fun s_2 : Int =>
        cond (ltI s_2 (a_.length : Int))
          ((at? a_ s_2).bind fun e_12 =>
            (at? b s_2).bind fun e_17 =>
              cond (neI e_12 e_17)
                (some (.inr (.inl ())))
                (some (.inl (addI s_2 1))))
          (some (.inr (.inr ())))) 0).bind fun r_23 =>
      Sum.elim (fun _r_23 =>
          some false)
        (fun _r_23 =>
          some true) r_23)

noncomputable def laws_eqHeap (a_ : THeap) (b : THeap) : Option (Bool) :=
  (laws_eqIntS a_.vars b.vars).bind fun y_1 =>
    cond y_1
      ((laws_eqIntS a_.next b.next).bind fun y_5 =>
        cond y_5
          (some true)
          (some false))
      (some false)

noncomputable def laws_eqHeapS (a_ : (List THeap)) (b : (List THeap)) : Option (Bool) :=
  cond (neI (a_.length : Int) (b.length : Int))
    (some false)
    ((iter (ρ := (Unit) ⊕ (Unit)) (fun s_2 : Int =>
        cond (ltI s_2 (a_.length : Int))
          ((at? a_ s_2).bind fun e_12 =>
            (at? b s_2).bind fun e_17 =>
              (laws_eqHeap e_12 e_17).bind fun y_22 =>
                cond y_22
                  (some (.inl (addI s_2 1)))
                  (some (.inr (.inl ()))))
          (some (.inr (.inr ())))) 0).bind fun r_26 =>
      Sum.elim (fun _r_26 =>
          some false)
        (fun _r_26 =>
          some true) r_26)

noncomputable def laws_eqSession (a_ : TSession) (b : TSession) : Option (Bool) :=
  (laws_eqProgram a_.prog b.prog).bind fun y_1 =>
    cond y_1
      ((laws_eqHeapS a_.start b.start).bind fun y_5 =>
        cond y_5
          (some true)
          (some false))
      (some false)

noncomputable def laws_FnExactEqualSession (aA : TSession) (aB : TSession) : Option (Bool) :=
  (laws_szSession aA 1048576).bind fun y_1 =>
    cond (ltI y_1 0)
      (some true)
      ((laws_szSession aB y_1).bind fun y_5 =>
        cond (ltI y_5 0)
          (some true)
          ((laws_toSession aA).bind fun y_9 =>
            (laws_toSession aB).bind fun y_12 =>
              (spec_EqualSession y_9 y_12).bind fun y_15 =>
                (laws_toSession aA).bind fun _ =>
                  (laws_toSession aB).bind fun _ =>
                    (impl_EqualSession y_9 y_12).bind fun y_22 =>
                      cond (neB y_22 y_15)
                        (some false)
                        ((laws_toSession aA).bind fun _ =>
                          (laws_eqSession y_9 y_9).bind fun y_28 =>
                            cond y_28
                              ((laws_toSession aB).bind fun _ =>
                                (laws_eqSession y_12 y_12).bind fun y_34 =>
                                  cond y_34
                                    (some true)
                                    (some false))
                              (some false))))

end Go.Ev
