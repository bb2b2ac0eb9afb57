import Derived.Test.YtenalemhbjojeaaGreatDoorEvA7
import Derived.Test.YtenalemhbjojeaaGreatDoorEvA8
import Derived.Test.YtenalemhbjojeaaGreatDoorEvA9
import Derived.Test.YtenalemhbjojeaaGreatDoorEvA10
set_option linter.unusedSimpArgs false
set_option linter.unusedVariables false
set_option linter.unnecessarySimpa false
noncomputable section
namespace Go.Ev
def slices_Concat_int (s:(List (List Int))):Option (List Int):=lib_Concat 8 s

def slices_Insert_Structure (l:List TStructure) (i:Int) (v:List TStructure):Option (List TStructure):=insF l i v

def strings_Join (l:List ByteArray) (s:ByteArray):Option ByteArray:=joinF l s

def strconv_Itoa (n:Int):Option ByteArray:=digF n

def slices_Clone_int (s:(List Int)):Option (List Int):=lib_Clone 8 s

def spec_Join (l:List ByteArray) (s:ByteArray):Option ByteArray:=joinF l s

def spec_FormatInt (n:Int):Option ByteArray:=digF n

def laws_szIntS (a_:(List Int)) (left:Int):Option (Int) :=
 cond (ltI (subI left (a_.length:Int)) 0)
 (some (-1))
 (some (subI left (a_.length:Int)))

def laws_szNode (a_:TNode) (left:Int):Option (Int) :=
 (laws_szIntS a_.vars left).bind fun y_1 =>
 cond (ltI y_1 0)
 (some (-1))
 ((laws_szIntS a_.reach y_1).bind fun y_5 =>
 cond (ltI y_5 0)
 (some (-1))
 (some y_5))

def laws_szNodeS (a_:(List TNode)) (left:Int):Option (Int) :=
 cond (ltI (subI left (a_.length:Int)) 0)
 (some (-1))
 ((iter (ρ:=(Int) ⊕ (Int)) (fun s_2:Int × Int =>
 cond (ltI s_2.2 (a_.length:Int))
 ((at? a_ s_2.2).bind fun e_10 =>
 (laws_szNode e_10 s_2.1).bind fun y_15 =>
 cond (ltI y_15 0)
 (some (.inr (.inl (-1))))
 (some (.inl (y_15,addI s_2.2 1))))
 (some (.inr (.inr s_2.1)))) (subI left (a_.length:Int),0)).bind fun r_19 =>
 Sum.elim (fun r_19 =>
 some r_19)
 (fun r_19 =>
 some r_19) r_19)

def laws_szStructure (a_:TStructure) (left:Int):Option (Int) :=
 (laws_szNodeS a_.nodes left).bind fun y_1 =>
 cond (ltI y_1 0)
 (some (-1))
 ((laws_szIntS a_.next y_1).bind fun y_5 =>
 cond (ltI y_5 0)
 (some (-1))
 (some y_5))

def laws_szStructureS (a_:(List TStructure)) (left:Int):Option (Int) :=
 cond (ltI (subI left (a_.length:Int)) 0)
 (some (-1))
 ((iter (ρ:=(Int) ⊕ (Int)) (fun s_2:Int × Int =>
 cond (ltI s_2.2 (a_.length:Int))
 ((at? a_ s_2.2).bind fun e_10 =>
 (laws_szStructure e_10 s_2.1).bind fun y_15 =>
 cond (ltI y_15 0)
 (some (.inr (.inl (-1))))
 (some (.inl (y_15,addI s_2.2 1))))
 (some (.inr (.inr s_2.1)))) (subI left (a_.length:Int),0)).bind fun r_19 =>
 Sum.elim (fun r_19 =>
 some r_19)
 (fun r_19 =>
 some r_19) r_19)

def laws_toIntS (a_:(List Int)):Option ((List Int)) :=
 (roomI (a_.length:Int) 8).bind fun _ =>
 (iter (ρ:=(List Int)) (fun s_5:Int × (List Int) =>
 cond (ltI s_5.1 (a_.length:Int))
 ((at? a_ s_5.1).bind fun e_13 =>
 (at? s_5.2 s_5.1).bind fun e_18 =>
 some (.inl (addI s_5.1 1,s_5.2.set s_5.1.toNat e_13)))
 (some (.inr s_5.2))) (0,List.replicate (a_.length:Int).toNat (0:Int))).bind fun r_24 =>
 some r_24

def laws_toNode (a_:TNode):Option (TNode) :=
 (laws_toIntS a_.vars).bind fun y_1 =>
 (laws_toIntS a_.reach).bind fun y_4 =>
 some (⟨y_1,y_4,a_.shared,a_.many⟩:TNode)

def laws_toNodeS (a_:(List TNode)):Option ((List TNode)) :=
 (roomI (a_.length:Int) 64).bind fun _ =>
 (iter (ρ:=(List TNode)) (fun s_5:Int × (List TNode) =>
 cond (ltI s_5.1 (a_.length:Int))
 ((at? a_ s_5.1).bind fun e_13 =>
 (laws_toNode e_13).bind fun y_18 =>
 (at? s_5.2 s_5.1).bind fun e_21 =>
 some (.inl (addI s_5.1 1,s_5.2.set s_5.1.toNat y_18)))
 (some (.inr s_5.2))) (0,List.replicate (a_.length:Int).toNat ((⟨[],[],0,0⟩:TNode):TNode))).bind fun r_27 =>
 some r_27

def laws_toStructure (a_:TStructure):Option (TStructure) :=
 (laws_toNodeS a_.nodes).bind fun y_1 =>
 (laws_toIntS a_.next).bind fun y_4 =>
 some (⟨y_1,y_4⟩:TStructure)

def laws_toStructureS (a_:(List TStructure)):Option ((List TStructure)) :=
 (roomI (a_.length:Int) 48).bind fun _ =>
 (iter (ρ:=(List TStructure)) (fun s_5:Int × (List TStructure) =>
 cond (ltI s_5.1 (a_.length:Int))
 ((at? a_ s_5.1).bind fun e_13 =>
 (laws_toStructure e_13).bind fun y_18 =>
 (at? s_5.2 s_5.1).bind fun e_21 =>
 some (.inl (addI s_5.1 1,s_5.2.set s_5.1.toNat y_18)))
 (some (.inr s_5.2))) (0,List.replicate (a_.length:Int).toNat ((⟨[],[]⟩:TStructure):TStructure))).bind fun r_27 =>
 some r_27

def spec_l15Vars (s:TStructure):Option (Int) :=
 cond (eqI (s.nodes.length:Int) 0)
 (some 0)
 ((at? s.nodes 0).bind fun e_2 =>
 some (e_2.vars.length:Int))

def spec_l1In (x_:Int) (lo:Int) (hi:Int):Option (Bool) :=
 cond (leI lo x_)
 (some (leI x_ hi))
 (some false)

def spec_IsTruth (a_:Int):Option (Bool) :=
 (spec_l1In a_ 0 2).bind fun y_1 =>
 some y_1

def spec_l12Truths (list:(List Int)):Option (Bool) :=
 (iter (ρ:=(Unit) ⊕ (Unit)) (fun s_1:Int =>
 cond (ltI s_1 (list.length:Int))
 ((at? list s_1).bind fun e_9 =>
 (spec_IsTruth e_9).bind fun y_14 =>
 cond y_14
 (some (.inl (addI s_1 1)))
 (some (.inr (.inl ()))))
 (some (.inr (.inr ())))) 0).bind fun r_18 =>
 Sum.elim (fun _r_18 =>
 some false)
 (fun _r_18 =>
 some true) r_18

def spec_IsStructure (vars:Int) (s:TStructure):Option (Bool) :=
 (iter (ρ:=(Unit) ⊕ (Unit)) (fun s_1:Int =>
 cond (ltI s_1 (s.nodes.length:Int))
 ((at? s.nodes s_1).bind fun e_9 =>
 cond (neI (e_9.vars.length:Int) vars)
 (some (.inr (.inl ())))
 (cond (neI (e_9.reach.length:Int) vars)
 (some (.inr (.inl ())))
 ((spec_l12Truths e_9.vars).bind fun y_17 =>
 cond y_17
 ((spec_l12Truths e_9.reach).bind fun y_21 =>
 cond y_21
 ((spec_IsTruth e_9.shared).bind fun y_25 =>
 cond y_25
 ((spec_l1In e_9.many 0 1).bind fun y_29 =>
 cond y_29
 (some (.inl (addI s_1 1)))
 (some (.inr (.inl ()))))
 (some (.inr (.inl ()))))
 (some (.inr (.inl ()))))
 (some (.inr (.inl ()))))))
 (some (.inr (.inr ())))) 0).bind fun r_33 =>
 Sum.elim (fun _r_33 =>
 some false)
 (fun _r_33 =>
 (spec_l1In vars 1 4).bind fun y_41 =>
 cond y_41
 (cond (leI (s.nodes.length:Int) 10)
 (cond (eqI (s.next.length:Int) (mulI (s.nodes.length:Int) (s.nodes.length:Int)))
 ((spec_l12Truths s.next).bind fun y_47 =>
 some y_47)
 (some false))
 (some false))
 (some false)) r_33

def spec_l12CopyNode (x_:TNode):Option (TNode) :=
 (room (([]:List Int).length+x_.vars.length) 8).bind fun _ =>
 (room (([]:List Int).length+x_.reach.length) 8).bind fun _ =>
 some x_

def spec_l12Copy (s:TStructure):Option (TStructure) :=
 (room (([]:List Int).length+s.next.length) 8).bind fun _ =>
 (iter (ρ:=(List TNode)) (fun s_3:Int × (List TNode) =>
 cond (ltI s_3.1 (s.nodes.length:Int))
 ((at? s.nodes s_3.1).bind fun e_11 =>
 (spec_l12CopyNode e_11).bind fun y_16 =>
 (room (s_3.2.length + [y_16].length) 64).bind fun _ =>
 some (.inl (addI s_3.1 1,s_3.2 ++ [y_16])))
 (some (.inr s_3.2))) (0,[])).bind fun r_21 =>
 some (⟨r_21,s.next⟩:TStructure)

def spec_CountPredicates (s:TStructure):Option (Int) :=
 cond (eqI (s.nodes.length:Int) 0)
 (some 0)
 ((spec_l15Vars s).bind fun y_2 =>
 some (addI (mulI 2 y_2) 1))

def spec_l13At (list:(List Int)) (k_:Int):Option (Int) :=
 (spec_l1In k_ 0 (subI (list.length:Int) 1)).bind fun y_1 =>
 cond y_1
 ((at? list k_).bind fun e_5 =>
 some e_5)
 (some 1)

def spec_PredicateAt (s:TStructure) (k_:Int) (i:Int):Option (Int) :=
 (spec_l15Vars s).bind fun y_1 =>
 (spec_l1In i 0 (subI (s.nodes.length:Int) 1)).bind fun y_4 =>
 cond y_4
 ((spec_l1In k_ 0 (subI y_1 1)).bind fun y_8 =>
 cond y_8
 ((at? s.nodes i).bind fun e_12 =>
 (spec_l13At e_12.vars k_).bind fun y_17 =>
 some y_17)
 ((spec_l1In k_ y_1 (subI (mulI 2 y_1) 1)).bind fun y_20 =>
 cond y_20
 ((at? s.nodes i).bind fun e_24 =>
 (spec_l13At e_24.reach (subI k_ y_1)).bind fun y_29 =>
 some y_29)
 (cond (eqI k_ (mulI 2 y_1))
 ((at? s.nodes i).bind fun e_33 =>
 some e_33.shared)
 (some 1))))
 (some 1)

def spec_TruthText (a_:Int):Option (ByteArray) :=
 (spec_IsTruth a_).bind fun y_1 =>
 cond y_1
 ((sub? (⟨#[48,63,49]⟩:ByteArray) a_ (addI a_ 1)).bind fun z_5 =>
 some z_5)
 (some (⟨#[]⟩:ByteArray))

def spec_NodeName (s:TStructure) (i:Int):Option (ByteArray) :=
 (spec_l1In i 0 (subI (s.nodes.length:Int) 1)).bind fun y_1 =>
 cond y_1
 ((spec_CountPredicates s).bind fun y_5 =>
 (iter (ρ:=ByteArray) (fun s_8:ByteArray × Int =>
 cond (ltI s_8.2 y_5)
 ((spec_PredicateAt s s_8.2 i).bind fun y_16 =>
 (spec_TruthText y_16).bind fun y_19 =>
 (catS s_8.1 y_19).bind fun z_22 =>
 some (.inl (z_22,addI s_8.2 1)))
 (some (.inr s_8.1))) ((⟨#[]⟩:ByteArray),0)).bind fun r_25 =>
 some r_25)
 (some (⟨#[]⟩:ByteArray))

def spec_l17Groups (s:TStructure):Option (List (List Int)) :=
 groupsT spec_NodeName s

def spec_l17Node (s:TStructure) (group:(List Int)):Option (TNode) :=
 (at? group 0).bind fun e_1 =>
 (at? s.nodes e_1).bind fun e_6 =>
 (spec_l12CopyNode e_6).bind fun y_11 =>
 (iter (ρ:=Int) (fun s_14:Int × Int =>
 cond (ltI s_14.1 (group.length:Int))
 (cond (ltI 1 (group.length:Int))
 (some (.inl (addI s_14.1 1,1)))
 ((at? group s_14.1).bind fun e_23 =>
 (at? s.nodes e_23).bind fun e_28 =>
 cond (neI e_28.many 0)
 (some (.inl (addI s_14.1 1,1)))
 (some (.inl (addI s_14.1 1,s_14.2)))))
 (some (.inr s_14.2))) (0,y_11.many)).bind fun r_34 =>
 some (⟨y_11.vars,y_11.reach,y_11.shared,r_34⟩:TNode)

def spec_NextOf (s:TStructure) (i:Int) (j:Int):Option (Int) :=
 (spec_l1In i 0 (subI (s.nodes.length:Int) 1)).bind fun y_1 =>
 cond y_1
 ((spec_l1In j 0 (subI (s.nodes.length:Int) 1)).bind fun y_5 =>
 cond y_5
 (cond (neI (s.next.length:Int) (mulI (s.nodes.length:Int) (s.nodes.length:Int)))
 (some 1)
 ((at? s.next (addI (mulI i (s.nodes.length:Int)) j)).bind fun e_10 =>
 some e_10))
 (some 1))
 (some 1)

def spec_JoinOf (a_:Int) (b_:Int):Option (Int) :=
 cond (neI a_ b_)
 (some 1)
 ((spec_IsTruth a_).bind fun y_2 =>
 cond y_2
 (some a_)
 (some 1))

def spec_l17Next (s:TStructure) (a_:(List Int)) (b_:(List Int)):Option (Int) :=
 (at? a_ 0).bind fun e_1 =>
 (at? b_ 0).bind fun e_6 =>
 (spec_NextOf s e_1 e_6).bind fun y_11 =>
 (iter (ρ:=Int) (fun s_14:Int × Int =>
 cond (ltI s_14.2 (a_.length:Int))
 ((iter (ρ:=Int) (fun s_22:Int × Int =>
 cond (ltI s_22.2 (b_.length:Int))
 ((at? a_ s_14.2).bind fun e_30 =>
 (at? b_ s_22.2).bind fun e_35 =>
 (spec_NextOf s e_30 e_35).bind fun y_40 =>
 (spec_JoinOf s_22.1 y_40).bind fun y_43 =>
 some (.inl (y_43,addI s_22.2 1)))
 (some (.inr s_22.1))) (s_14.1,0)).bind fun r_46 =>
 some (.inl (r_46,addI s_14.2 1)))
 (some (.inr s_14.1))) (y_11,0)).bind fun r_51 =>
 some r_51

def spec_Blur (s:TStructure):Option (TStructure) :=
 cond (eqI (s.nodes.length:Int) 0)
 (some (⟨[],[]⟩:TStructure))
 ((spec_l15Vars s).bind fun y_2 =>
 (spec_IsStructure y_2 s).bind fun y_5 =>
 cond y_5
 ((spec_l17Groups s).bind fun y_9 =>
 (iter (ρ:=(List TNode) × (List Int)) (fun s_12:Int × (List TNode) × (List Int) =>
 cond (ltI s_12.1 (y_9.length:Int))
 ((at? y_9 s_12.1).bind fun e_20 =>
 (spec_l17Node s e_20).bind fun y_25 =>
 (room (s_12.2.1.length + [y_25].length) 64).bind fun _ =>
 (iter (ρ:=(List Int)) (fun s_30:Int × (List Int) =>
 cond (ltI s_30.1 (y_9.length:Int))
 ((at? y_9 s_12.1).bind fun _ =>
 (at? y_9 s_30.1).bind fun e_43 =>
 (spec_l17Next s e_20 e_43).bind fun y_48 =>
 (room (s_30.2.length + [y_48].length) 8).bind fun _ =>
 some (.inl (addI s_30.1 1,s_30.2 ++ [y_48])))
 (some (.inr s_30.2))) (0,s_12.2.2)).bind fun r_53 =>
 some (.inl (addI s_12.1 1,s_12.2.1 ++ [y_25],r_53)))
 (some (.inr (s_12.2.1,s_12.2.2)))) (0,[],[])).bind fun r_58 =>
 some (⟨r_58.1,r_58.2⟩:TStructure))
 ((spec_l12Copy s).bind fun y_63 =>
 some y_63))

def spec_IsName (s:ByteArray):Option (Bool) :=
 (iter (ρ:=(Unit) ⊕ (Unit)) (fun s_1:Int =>
 cond (ltI s_1 (s.size:Int))
 ((chr? s s_1).bind fun e_9 =>
 cond (ltI e_9 97)
 (some (.inr (.inl ())))
 ((chr? s s_1).bind fun _ =>
 cond (ltI 122 e_9)
 (some (.inr (.inl ())))
 (some (.inl (addI s_1 1)))))
 (some (.inr (.inr ())))) 0).bind fun r_15 =>
 Sum.elim (fun _r_15 =>
 some false)
 (fun _r_15 =>
 (spec_l1In (s.size:Int) 1 2).bind fun y_23 =>
 some y_23) r_15

def spec_IndexOf (list:(List ByteArray)) (s:ByteArray):Option (Int) :=
 (iter (ρ:=(Int) ⊕ (Unit)) (fun s_1:Int =>
 cond (ltI s_1 (list.length:Int))
 ((at? list s_1).bind fun e_9 =>
 cond (eqS e_9 s)
 (some (.inr (.inl s_1)))
 (some (.inl (addI s_1 1))))
 (some (.inr (.inr ())))) 0).bind fun r_15 =>
 Sum.elim (fun r_15 =>
 some r_15)
 (fun _r_15 =>
 some (-1)) r_15

def spec_AreVars (list:(List ByteArray)):Option (Bool) :=
 (iter (ρ:=(Unit) ⊕ (Unit)) (fun s_1:Int =>
 cond (ltI s_1 (list.length:Int))
 ((at? list s_1).bind fun e_9 =>
 (spec_IsName e_9).bind fun y_14 =>
 cond y_14
 ((at? list s_1).bind fun _ =>
 (spec_IndexOf list e_9).bind fun y_23 =>
 cond (neI y_23 s_1)
 (some (.inr (.inl ())))
 (some (.inl (addI s_1 1))))
 (some (.inr (.inl ()))))
 (some (.inr (.inr ())))) 0).bind fun r_27 =>
 Sum.elim (fun _r_27 =>
 some false)
 (fun _r_27 =>
 (spec_l1In (list.length:Int) 1 4).bind fun y_35 =>
 some y_35) r_27

def spec_l12Values (list:(List Int)):Option (ByteArray) :=
 (iter (ρ:=ByteArray) (fun s_1:ByteArray × Int =>
 cond (ltI s_1.2 (list.length:Int))
 ((at? list s_1.2).bind fun e_9 =>
 (spec_TruthText e_9).bind fun y_14 =>
 (catS s_1.1 y_14).bind fun z_17 =>
 some (.inl (z_17,addI s_1.2 1)))
 (some (.inr s_1.1))) ((⟨#[]⟩:ByteArray),0)).bind fun r_20 =>
 some r_20

def spec_l12Node (s:TStructure) (i:Int):Option (ByteArray) :=
 (at? s.nodes i).bind fun e_1 =>
 (spec_l12Values e_1.vars).bind fun y_6 =>
 (spec_l12Values e_1.reach).bind fun y_9 =>
 (catS y_6 y_9).bind fun z_12 =>
 (spec_TruthText e_1.shared).bind fun y_15 =>
 (catS z_12 y_15).bind fun z_18 =>
 cond (eqI e_1.many 1)
 ((catS z_18 (⟨#[42]⟩:ByteArray)).bind fun z_22 =>
 (iter (ρ:=(List ByteArray)) (fun s_25:(List ByteArray) × Int =>
 cond (ltI s_25.2 (s.nodes.length:Int))
 ((spec_NextOf s i s_25.2).bind fun y_33 =>
 cond (eqI y_33 2)
 ((spec_FormatInt s_25.2).bind fun y_37 =>
 (room (s_25.1.length + [y_37].length) 16).bind fun _ =>
 some (.inl (s_25.1 ++ [y_37],addI s_25.2 1)))
 (cond (eqI y_33 1)
 ((spec_FormatInt s_25.2).bind fun y_43 =>
 (catS y_43 (⟨#[63]⟩:ByteArray)).bind fun z_46 =>
 (room (s_25.1.length + [z_46].length) 16).bind fun _ =>
 some (.inl (s_25.1 ++ [z_46],addI s_25.2 1)))
 (some (.inl (s_25.1,addI s_25.2 1)))))
 (some (.inr s_25.1))) ([],0)).bind fun r_51 =>
 cond (ltI 0 (r_51.length:Int))
 ((catS z_22 (⟨#[62]⟩:ByteArray)).bind fun z_57 =>
 (spec_Join r_51 (⟨#[44]⟩:ByteArray)).bind fun y_60 =>
 (catS z_57 y_60).bind fun z_63 =>
 some z_63)
 (some z_22))
 ((iter (ρ:=(List ByteArray)) (fun s_66:(List ByteArray) × Int =>
 cond (ltI s_66.2 (s.nodes.length:Int))
 ((spec_NextOf s i s_66.2).bind fun y_74 =>
 cond (eqI y_74 2)
 ((spec_FormatInt s_66.2).bind fun y_78 =>
 (room (s_66.1.length + [y_78].length) 16).bind fun _ =>
 some (.inl (s_66.1 ++ [y_78],addI s_66.2 1)))
 (cond (eqI y_74 1)
 ((spec_FormatInt s_66.2).bind fun y_84 =>
 (catS y_84 (⟨#[63]⟩:ByteArray)).bind fun z_87 =>
 (room (s_66.1.length + [z_87].length) 16).bind fun _ =>
 some (.inl (s_66.1 ++ [z_87],addI s_66.2 1)))
 (some (.inl (s_66.1,addI s_66.2 1)))))
 (some (.inr s_66.1))) ([],0)).bind fun r_92 =>
 cond (ltI 0 (r_92.length:Int))
 ((catS z_18 (⟨#[62]⟩:ByteArray)).bind fun z_98 =>
 (spec_Join r_92 (⟨#[44]⟩:ByteArray)).bind fun y_101 =>
 (catS z_98 y_101).bind fun z_104 =>
 some z_104)
 (some z_18))

def spec_StructureText (vars:(List ByteArray)) (s:TStructure):Option (ByteArray) :=
 (spec_AreVars vars).bind fun y_1 =>
 cond y_1
 ((spec_IsStructure (vars.length:Int) s).bind fun y_5 =>
 cond y_5
 ((iter (ρ:=(List ByteArray)) (fun s_9:(List ByteArray) × Int =>
 cond (ltI s_9.2 (s.nodes.length:Int))
 ((spec_l12Node s s_9.2).bind fun y_17 =>
 (room (s_9.1.length + [y_17].length) 16).bind fun _ =>
 some (.inl (s_9.1 ++ [y_17],addI s_9.2 1)))
 (some (.inr s_9.1))) ([],0)).bind fun r_22 =>
 cond (eqI (r_22.length:Int) 0)
 (some (⟨#[45]⟩:ByteArray))
 ((spec_Join r_22 (⟨#[32]⟩:ByteArray)).bind fun y_28 =>
 some y_28))
 (some (⟨#[]⟩:ByteArray)))
 (some (⟨#[]⟩:ByteArray))

def spec_SetKey (s:TStructure):Option (ByteArray) :=
 cond (eqI (s.nodes.length:Int) 0)
 (some (⟨#[45]⟩:ByteArray))
 ((spec_l15Vars s).bind fun y_2 =>
 (spec_l1In y_2 1 4).bind fun y_5 =>
 cond y_5
 ((slc [(⟨#[97]⟩:ByteArray),(⟨#[98]⟩:ByteArray),(⟨#[99]⟩:ByteArray),(⟨#[100]⟩:ByteArray)] 0 y_2).bind fun z_9 =>
 (spec_StructureText z_9 s).bind fun y_16 =>
 some y_16)
 (some (⟨#[]⟩:ByteArray)))

def spec_AddToSet (set:(List TStructure)) (s:TStructure):Option ((List TStructure)) :=
 (spec_Blur s).bind fun y_1 =>
 (spec_SetKey y_1).bind fun y_4 =>
 (iter (ρ:=Bool) (fun s_7:Bool × Int =>
 cond (ltI s_7.2 (set.length:Int))
 (cond s_7.1
 (some (.inl (true,addI s_7.2 1)))
 ((at? set s_7.2).bind fun e_16 =>
 (spec_SetKey e_16).bind fun y_21 =>
 some (.inl (eqS y_21 y_4,addI s_7.2 1))))
 (some (.inr s_7.1))) (false,0)).bind fun r_24 =>
 (iter (ρ:=(List TStructure) × Bool) (fun s_29:(List TStructure) × Int × Bool =>
 cond (ltI s_29.2.1 (set.length:Int))
 (cond s_29.2.2
 ((at? set s_29.2.1).bind fun e_38 =>
 (spec_l12Copy e_38).bind fun y_43 =>
 (room (s_29.1.length + [y_43].length) 48).bind fun _ =>
 some (.inl (s_29.1 ++ [y_43],addI s_29.2.1 1,s_29.2.2)))
 ((at? set s_29.2.1).bind fun e_48 =>
 (spec_SetKey e_48).bind fun y_53 =>
 cond (gtT y_53 y_4)
 ((spec_l12Copy y_1).bind fun y_57 =>
 (room (s_29.1.length + [y_57].length) 48).bind fun _ =>
 (at? set s_29.2.1).bind fun _ =>
 (spec_l12Copy e_48).bind fun y_67 =>
 (room ((s_29.1 ++ [y_57]).length + [y_67].length) 48).bind fun _ =>
 some (.inl ((s_29.1 ++ [y_57]) ++ [y_67],addI s_29.2.1 1,true)))
 ((at? set s_29.2.1).bind fun _ =>
 (spec_l12Copy e_48).bind fun y_77 =>
 (room (s_29.1.length + [y_77].length) 48).bind fun _ =>
 some (.inl (s_29.1 ++ [y_77],addI s_29.2.1 1,s_29.2.2)))))
 (some (.inr (s_29.1,s_29.2.2)))) ([],0,r_24)).bind fun r_82 =>
 cond r_82.2
 (some r_82.1)
 ((spec_l12Copy y_1).bind fun y_88 =>
 (room (r_82.1.length + [y_88].length) 48).bind fun _ =>
 some (r_82.1 ++ [y_88]))

def impl_Node_own (x_:TNode):Option (TNode) :=
 (slices_Clone_int x_.vars).bind fun y_1 =>
 (slices_Clone_int x_.reach).bind fun y_4 =>
 some (⟨y_1,y_4,x_.shared,x_.many⟩:TNode)

def impl_Structure_own (s:TStructure):Option (TStructure) :=
 (slices_Clone_int s.next).bind fun y_1 =>
 (iter (ρ:=(List TNode)) (fun s_4:Int × (List TNode) =>
 cond (ltI s_4.1 (s.nodes.length:Int))
 ((at? s.nodes s_4.1).bind fun e_12 =>
 (impl_Node_own e_12).bind fun y_18 =>
 (room (s_4.2.length + [y_18].length) 64).bind fun _ =>
 some (.inl (addI s_4.1 1,s_4.2 ++ [y_18])))
 (some (.inr s_4.2))) (0,[])).bind fun r_23 =>
 some (⟨r_23,y_1⟩:TStructure)

def impl_ownSet (set:(List TStructure)):Option ((List TStructure)) :=
 (iter (ρ:=(List TStructure)) (fun s_1:(List TStructure) × Int =>
 cond (ltI s_1.2 (set.length:Int))
 ((at? set s_1.2).bind fun e_9 =>
 (impl_Structure_own e_9).bind fun y_15 =>
 (room (s_1.1.length + [y_15].length) 48).bind fun _ =>
 some (.inl (s_1.1 ++ [y_15],addI s_1.2 1)))
 (some (.inr s_1.1))) ([],0)).bind fun r_20 =>
 some r_20

def impl_variables (s:TStructure):Option (Int) :=
 cond (eqI (s.nodes.length:Int) 0)
 (some 0)
 ((at? s.nodes 0).bind fun e_2 =>
 some (e_2.vars.length:Int))

def impl_within (n_:Int) (low:Int) (high:Int):Option (Bool) :=
 cond (leI low n_)
 (some (leI n_ high))
 (some false)

def impl_IsTruth (a_:Int):Option (Bool) :=
 (impl_within a_ 0 2).bind fun y_1 =>
 some y_1

def impl_areTruths_1 (a_:Int):Option (Bool) :=
 (impl_IsTruth a_).bind fun y_1 =>
 some (notB y_1)

def slices_IndexFunc_int (s:(List Int)) (f_:(Int→Option (Bool))):Option (Int) :=
 (iter (ρ:=(Int) ⊕ (Unit)) (fun s_1:Int =>
 cond (ltI s_1 (s.length:Int))
 ((at? s s_1).bind fun e_10 =>
 (f_ e_10).bind fun y_15 =>
 cond y_15
 (some (.inr (.inl s_1)))
 (some (.inl (addI s_1 1))))
 (some (.inr (.inr ())))) 0).bind fun r_18 =>
 Sum.elim (fun r_18 =>
 some r_18)
 (fun _r_18 =>
 some (-1)) r_18

def slices_ContainsFunc_int (s:(List Int)) (f_:(Int→Option (Bool))):Option (Bool) :=
 (slices_IndexFunc_int s f_).bind fun y_1 =>
 some (leI 0 y_1)

def impl_areTruths (list:(List Int)):Option (Bool) :=
 (slices_ContainsFunc_int list (fun x0=>impl_areTruths_1 x0)).bind fun y_1 =>
 some (notB y_1)

def slices_IndexFunc_Node (s:(List TNode)) (f_:(TNode→Option (Bool))):Option (Int) :=
 (iter (ρ:=(Int) ⊕ (Unit)) (fun s_1:Int =>
 cond (ltI s_1 (s.length:Int))
 ((at? s s_1).bind fun e_10 =>
 (f_ e_10).bind fun y_15 =>
 cond y_15
 (some (.inr (.inl s_1)))
 (some (.inl (addI s_1 1))))
 (some (.inr (.inr ())))) 0).bind fun r_18 =>
 Sum.elim (fun r_18 =>
 some r_18)
 (fun _r_18 =>
 some (-1)) r_18

def slices_ContainsFunc_Node (s:(List TNode)) (f_:(TNode→Option (Bool))):Option (Bool) :=
 (slices_IndexFunc_Node s f_).bind fun y_1 =>
 some (leI 0 y_1)

def impl_IsStructure_1 (x_:TNode) (c0:Int):Option (Bool) :=
 cond (neI (x_.vars.length:Int) c0)
 (some true)
 (cond (neI (x_.reach.length:Int) c0)
 (some true)
 ((impl_areTruths x_.vars).bind fun y_3 =>
 cond y_3
 ((impl_areTruths x_.reach).bind fun y_7 =>
 cond y_7
 ((impl_IsTruth x_.shared).bind fun y_11 =>
 cond y_11
 (cond (neI x_.many 0)
 (some (neI x_.many 1))
 (some false))
 (some true))
 (some true))
 (some true)))

def impl_IsStructure (vars:Int) (s:TStructure):Option (Bool) :=
 (impl_within vars 1 4).bind fun y_1 =>
 cond y_1
 (cond (ltI 10 (s.nodes.length:Int))
 (some false)
 (cond (neI (s.next.length:Int) (mulI (s.nodes.length:Int) (s.nodes.length:Int)))
 (some false)
 ((impl_areTruths s.next).bind fun y_7 =>
 cond y_7
 ((slices_ContainsFunc_Node s.nodes (fun x0=>impl_IsStructure_1 x0 vars)).bind fun y_11 =>
 some (notB y_11))
 (some false))))
 (some false)

def impl_Structure_isNode (s:TStructure) (i:Int):Option (Bool) :=
 (impl_within i 0 (subI (s.nodes.length:Int) 1)).bind fun y_1 =>
 some y_1

def impl_CountPredicates (s:TStructure):Option (Int) :=
 cond (eqI (s.nodes.length:Int) 0)
 (some 0)
 ((impl_variables s).bind fun y_2 =>
 some (addI (mulI 2 y_2) 1))

def impl_PredicateAt (s:TStructure) (k_:Int) (i:Int):Option (Int) :=
 (impl_variables s).bind fun y_1 =>
 (impl_Structure_isNode s i).bind fun y_4 =>
 cond y_4
 ((at? s.nodes i).bind fun e_8 =>
 cond (eqI k_ (mulI 2 y_1))
 (some e_8.shared)
 ((impl_within k_ 0 (subI y_1 1)).bind fun y_14 =>
 cond y_14
 ((impl_within k_ 0 (subI (e_8.vars.length:Int) 1)).bind fun y_18 =>
 cond y_18
 ((at? e_8.vars k_).bind fun e_22 =>
 some e_22)
 (some 1))
 ((impl_within k_ y_1 (subI (mulI 2 y_1) 1)).bind fun y_27 =>
 cond y_27
 ((impl_within (subI k_ y_1) 0 (subI (e_8.reach.length:Int) 1)).bind fun y_31 =>
 cond y_31
 ((at? e_8.reach (subI k_ y_1)).bind fun e_35 =>
 some e_35)
 (some 1))
 ((impl_within k_ 0 (subI 0 1)).bind fun y_40 =>
 cond y_40
 ((at? [] k_).bind fun e_44 =>
 some e_44)
 (some 1)))))
 (some 1)

def impl_TruthText (a_:Int):Option (ByteArray) :=
 (impl_IsTruth a_).bind fun y_1 =>
 cond y_1
 ((sub? (⟨#[48,63,49]⟩:ByteArray) a_ (addI a_ 1)).bind fun z_5 =>
 some z_5)
 (some (⟨#[]⟩:ByteArray))

def impl_NodeName (s:TStructure) (i:Int):Option (ByteArray) :=
 (impl_Structure_isNode s i).bind fun y_1 =>
 cond y_1
 ((impl_CountPredicates s).bind fun y_5 =>
 (iter (ρ:=ByteArray) (fun s_8:ByteArray × Int =>
 cond (ltI s_8.2 y_5)
 ((impl_PredicateAt s s_8.2 i).bind fun y_16 =>
 (impl_TruthText y_16).bind fun y_19 =>
 (catS s_8.1 y_19).bind fun z_22 =>
 some (.inl (z_22,addI s_8.2 1)))
 (some (.inr s_8.1))) ((⟨#[]⟩:ByteArray),0)).bind fun r_25 =>
 some r_25)
 (some (⟨#[]⟩:ByteArray))

def impl_NextOf (s:TStructure) (i:Int) (j:Int):Option (Int) :=
 (impl_Structure_isNode s i).bind fun y_1 =>
 cond y_1
 ((impl_Structure_isNode s j).bind fun y_5 =>
 cond y_5
 (cond (neI (s.next.length:Int) (mulI (s.nodes.length:Int) (s.nodes.length:Int)))
 (some 1)
 ((at? s.next (addI (mulI i (s.nodes.length:Int)) j)).bind fun e_10 =>
 some e_10))
 (some 1))
 (some 1)

def impl_JoinOf (a_:Int) (b_:Int):Option (Int) :=
 cond (neI a_ b_)
 (some 1)
 ((impl_IsTruth a_).bind fun y_2 =>
 cond y_2
 (some a_)
 (some 1))

def impl_joinNext (s:TStructure) (from_:(List Int)) (to_:(List Int)):Option (Int) :=
 (at? from_ 0).bind fun e_1 =>
 (at? to_ 0).bind fun e_6 =>
 (impl_NextOf s e_1 e_6).bind fun y_11 =>
 (iter (ρ:=Int) (fun s_14:Int × Int =>
 cond (ltI s_14.2 (from_.length:Int))
 ((at? from_ s_14.2).bind fun e_22 =>
 (iter (ρ:=Int) (fun s_27:Int × Int =>
 cond (ltI s_27.2 (to_.length:Int))
 ((at? to_ s_27.2).bind fun e_35 =>
 (impl_NextOf s e_22 e_35).bind fun y_40 =>
 (impl_JoinOf s_27.1 y_40).bind fun y_43 =>
 some (.inl (y_43,addI s_27.2 1)))
 (some (.inr s_27.1))) (s_14.1,0)).bind fun r_46 =>
 some (.inl (r_46,addI s_14.2 1)))
 (some (.inr s_14.1))) (y_11,0)).bind fun r_51 =>
 some r_51

def impl_Blur (s:TStructure):Option (TStructure) :=
 cond (eqI (s.nodes.length:Int) 0)
 (some (⟨[],[]⟩:TStructure))
 ((impl_variables s).bind fun y_2 =>
 (impl_IsStructure y_2 s).bind fun y_5 =>
 cond y_5
 ((preT impl_NodeName s).bind fun p_9 =>
 (iter (ρ:=(List TNode) × (List Int)) (fun s_11:Int × (List TNode) × (List Int) =>
 cond (ltI s_11.1 (p_9.2.length:Int))
 ((at? p_9.2 s_11.1).bind fun e_19 =>
 (lookT e_19 p_9.1).bind fun y_24 =>
 (at? y_24 0).bind fun e_27 =>
 (at? s.nodes e_27).bind fun e_32 =>
 (impl_Node_own e_32).bind fun y_37 =>
 (lookT e_19 p_9.1).bind fun _ =>
 (iter (ρ:=Int) (fun s_42:Int × Int =>
 cond (ltI s_42.1 (y_24.length:Int))
 ((at? y_24 s_42.1).bind fun e_50 =>
 cond (ltI 0 s_42.1)
 (some (.inl (addI s_42.1 1,1)))
 ((at? s.nodes e_50).bind fun e_56 =>
 cond (neI e_56.many 0)
 (some (.inl (addI s_42.1 1,1)))
 (some (.inl (addI s_42.1 1,s_42.2)))))
 (some (.inr s_42.2))) (0,y_37.many)).bind fun r_62 =>
 (room (s_11.2.1.length + [(⟨y_37.vars,y_37.reach,y_37.shared,r_62⟩:TNode)].length) 64).bind fun _ =>
 (iter (ρ:=(List Int)) (fun s_69:Int × (List Int) =>
 cond (ltI s_69.1 (p_9.2.length:Int))
 ((at? p_9.2 s_69.1).bind fun e_77 =>
 (lookT e_19 p_9.1).bind fun _ =>
 (lookT e_77 p_9.1).bind fun y_83 =>
 (impl_joinNext s y_24 y_83).bind fun y_86 =>
 (room (s_69.2.length + [y_86].length) 8).bind fun _ =>
 some (.inl (addI s_69.1 1,s_69.2 ++ [y_86])))
 (some (.inr s_69.2))) (0,s_11.2.2)).bind fun r_91 =>
 some (.inl (addI s_11.1 1,s_11.2.1 ++ [(⟨y_37.vars,y_37.reach,y_37.shared,r_62⟩:TNode)],r_91)))
 (some (.inr (s_11.2.1,s_11.2.2)))) (0,[],[])).bind fun r_96 =>
 some (⟨r_96.1,r_96.2⟩:TStructure))
 ((impl_Structure_own s).bind fun y_101 =>
 some y_101))

def impl_IsName (s:ByteArray):Option (Bool) :=
 (iter (ρ:=(Unit) ⊕ (Unit)) (fun s_1:Int =>
 cond (ltI s_1 (s.size:Int))
 ((chr? s s_1).bind fun e_9 =>
 cond (ltI e_9 97)
 (some (.inr (.inl ())))
 ((chr? s s_1).bind fun _ =>
 cond (ltI 122 e_9)
 (some (.inr (.inl ())))
 (some (.inl (addI s_1 1)))))
 (some (.inr (.inr ())))) 0).bind fun r_15 =>
 Sum.elim (fun _r_15 =>
 some false)
 (fun _r_15 =>
 (impl_within (s.size:Int) 1 2).bind fun y_23 =>
 some y_23) r_15

def slices_Index_string (s:(List ByteArray)) (v:ByteArray):Option (Int) :=
 (iter (ρ:=(Int) ⊕ (Unit)) (fun s_1:Int =>
 cond (ltI s_1 (s.length:Int))
 ((at? s s_1).bind fun e_9 =>
 cond (eqS v e_9)
 (some (.inr (.inl s_1)))
 (some (.inl (addI s_1 1))))
 (some (.inr (.inr ())))) 0).bind fun r_15 =>
 Sum.elim (fun r_15 =>
 some r_15)
 (fun _r_15 =>
 some (-1)) r_15

def impl_IndexOf (list:(List ByteArray)) (s:ByteArray):Option (Int) :=
 (slices_Index_string list s).bind fun y_1 =>
 some y_1

def impl_AreVars (list:(List ByteArray)):Option (Bool) :=
 (iter (ρ:=(Unit) ⊕ (Unit)) (fun s_1:Int =>
 cond (ltI s_1 (list.length:Int))
 ((at? list s_1).bind fun e_9 =>
 (impl_IsName e_9).bind fun y_14 =>
 cond y_14
 ((impl_IndexOf list e_9).bind fun y_18 =>
 cond (neI y_18 s_1)
 (some (.inr (.inl ())))
 (some (.inl (addI s_1 1))))
 (some (.inr (.inl ()))))
 (some (.inr (.inr ())))) 0).bind fun r_22 =>
 Sum.elim (fun _r_22 =>
 some false)
 (fun _r_22 =>
 (impl_within (list.length:Int) 1 4).bind fun y_30 =>
 some y_30) r_22

def impl_truthTexts (list:(List Int)):Option (ByteArray) :=
 (iter (ρ:=ByteArray) (fun s_1:ByteArray × Int =>
 cond (ltI s_1.2 (list.length:Int))
 ((at? list s_1.2).bind fun e_9 =>
 (impl_TruthText e_9).bind fun y_14 =>
 (catS s_1.1 y_14).bind fun z_17 =>
 some (.inl (z_17,addI s_1.2 1)))
 (some (.inr s_1.1))) ((⟨#[]⟩:ByteArray),0)).bind fun r_20 =>
 some r_20

def impl_FormatInt (n_:Int):Option (ByteArray) :=
 (strconv_Itoa n_).bind fun y_1 =>
 some y_1

def impl_Join (list:(List ByteArray)) (by_:ByteArray):Option (ByteArray) :=
 (strings_Join list by_).bind fun y_1 =>
 some y_1

def impl_StructureText (vars:(List ByteArray)) (s:TStructure):Option (ByteArray) :=
 (impl_AreVars vars).bind fun y_1 =>
 cond y_1
 ((impl_IsStructure (vars.length:Int) s).bind fun y_5 =>
 cond y_5
 (cond (eqI (s.nodes.length:Int) 0)
 (some (⟨#[45]⟩:ByteArray))
 ((iter (ρ:=(List ByteArray)) (fun s_10:(List ByteArray) × Int =>
 cond (ltI s_10.2 (s.nodes.length:Int))
 ((at? s.nodes s_10.2).bind fun e_18 =>
 (impl_truthTexts e_18.vars).bind fun y_24 =>
 (impl_truthTexts e_18.reach).bind fun y_27 =>
 (catS y_24 y_27).bind fun z_30 =>
 (impl_truthTexts [e_18.shared]).bind fun y_33 =>
 (catS z_30 y_33).bind fun z_36 =>
 cond (eqI e_18.many 1)
 ((catS z_36 (⟨#[42]⟩:ByteArray)).bind fun z_40 =>
 (iter (ρ:=(List ByteArray)) (fun s_43:(List ByteArray) × Int =>
 cond (ltI s_43.2 (s.nodes.length:Int))
 ((impl_NextOf s s_10.2 s_43.2).bind fun y_51 =>
 cond (eqI y_51 2)
 ((impl_FormatInt s_43.2).bind fun y_55 =>
 (room (s_43.1.length + [y_55].length) 16).bind fun _ =>
 some (.inl (s_43.1 ++ [y_55],addI s_43.2 1)))
 (cond (eqI y_51 1)
 ((impl_FormatInt s_43.2).bind fun y_61 =>
 (catS y_61 (⟨#[63]⟩:ByteArray)).bind fun z_64 =>
 (room (s_43.1.length + [z_64].length) 16).bind fun _ =>
 some (.inl (s_43.1 ++ [z_64],addI s_43.2 1)))
 (some (.inl (s_43.1,addI s_43.2 1)))))
 (some (.inr s_43.1))) ([],0)).bind fun r_69 =>
 cond (ltI 0 (r_69.length:Int))
 ((impl_Join r_69 (⟨#[44]⟩:ByteArray)).bind fun y_75 =>
 (catS (⟨#[62]⟩:ByteArray) y_75).bind fun z_78 =>
 (catS z_40 z_78).bind fun z_81 =>
 (room (s_10.1.length + [z_81].length) 16).bind fun _ =>
 some (.inl (s_10.1 ++ [z_81],addI s_10.2 1)))
 ((room (s_10.1.length + [z_40].length) 16).bind fun _ =>
 some (.inl (s_10.1 ++ [z_40],addI s_10.2 1))))
 ((iter (ρ:=(List ByteArray)) (fun s_88:(List ByteArray) × Int =>
 cond (ltI s_88.2 (s.nodes.length:Int))
 ((impl_NextOf s s_10.2 s_88.2).bind fun y_96 =>
 cond (eqI y_96 2)
 ((impl_FormatInt s_88.2).bind fun y_100 =>
 (room (s_88.1.length + [y_100].length) 16).bind fun _ =>
 some (.inl (s_88.1 ++ [y_100],addI s_88.2 1)))
 (cond (eqI y_96 1)
 ((impl_FormatInt s_88.2).bind fun y_106 =>
 (catS y_106 (⟨#[63]⟩:ByteArray)).bind fun z_109 =>
 (room (s_88.1.length + [z_109].length) 16).bind fun _ =>
 some (.inl (s_88.1 ++ [z_109],addI s_88.2 1)))
 (some (.inl (s_88.1,addI s_88.2 1)))))
 (some (.inr s_88.1))) ([],0)).bind fun r_114 =>
 cond (ltI 0 (r_114.length:Int))
 ((impl_Join r_114 (⟨#[44]⟩:ByteArray)).bind fun y_120 =>
 (catS (⟨#[62]⟩:ByteArray) y_120).bind fun z_123 =>
 (catS z_36 z_123).bind fun z_126 =>
 (room (s_10.1.length + [z_126].length) 16).bind fun _ =>
 some (.inl (s_10.1 ++ [z_126],addI s_10.2 1)))
 ((room (s_10.1.length + [z_36].length) 16).bind fun _ =>
 some (.inl (s_10.1 ++ [z_36],addI s_10.2 1)))))
 (some (.inr s_10.1))) ([],0)).bind fun r_133 =>
 (impl_Join r_133 (⟨#[32]⟩:ByteArray)).bind fun y_138 =>
 some y_138))
 (some (⟨#[]⟩:ByteArray)))
 (some (⟨#[]⟩:ByteArray))

def impl_SetKey (s:TStructure):Option (ByteArray) :=
 cond (eqI (s.nodes.length:Int) 0)
 (some (⟨#[45]⟩:ByteArray))
 ((impl_variables s).bind fun y_2 =>
 (slc [(⟨#[97]⟩:ByteArray),(⟨#[98]⟩:ByteArray),(⟨#[99]⟩:ByteArray),(⟨#[100]⟩:ByteArray)] 0 (minI y_2 4)).bind fun z_5 =>
 (impl_StructureText z_5 s).bind fun y_12 =>
 some y_12)

def slices_IndexFunc_Structure (s:(List TStructure)) (f_:(TStructure→Option (Bool))):Option (Int) :=
 (iter (ρ:=(Int) ⊕ (Unit)) (fun s_1:Int =>
 cond (ltI s_1 (s.length:Int))
 ((at? s s_1).bind fun e_10 =>
 (f_ e_10).bind fun y_15 =>
 cond y_15
 (some (.inr (.inl s_1)))
 (some (.inl (addI s_1 1))))
 (some (.inr (.inr ())))) 0).bind fun r_18 =>
 Sum.elim (fun r_18 =>
 some r_18)
 (fun _r_18 =>
 some (-1)) r_18

def slices_ContainsFunc_Structure (s:(List TStructure)) (f_:(TStructure→Option (Bool))):Option (Bool) :=
 (slices_IndexFunc_Structure s f_).bind fun y_1 =>
 some (leI 0 y_1)

def impl_AddToSet_1 (y_:TStructure) (c0:ByteArray):Option (Bool) :=
 (impl_SetKey y_).bind fun y_1 =>
 some (eqS y_1 c0)

def impl_AddToSet_2 (y_:TStructure) (c0:ByteArray):Option (Bool) :=
 (impl_SetKey y_).bind fun y_1 =>
 some (gtT y_1 c0)

def impl_AddToSet (set:(List TStructure)) (s:TStructure):Option ((List TStructure)) :=
 (impl_ownSet set).bind fun y_1 =>
 (impl_Blur s).bind fun y_4 =>
 (impl_SetKey y_4).bind fun y_7 =>
 (slices_ContainsFunc_Structure set (fun x0=>impl_AddToSet_1 x0 y_7)).bind fun y_10 =>
 cond y_10
 (some y_1)
 ((slices_IndexFunc_Structure set (fun x0=>impl_AddToSet_2 x0 y_7)).bind fun y_13 =>
 cond (ltI y_13 0)
 ((slices_Insert_Structure y_1 (y_1.length:Int) [y_4]).bind fun y_18 =>
 some y_18)
 ((slices_Insert_Structure y_1 y_13 [y_4]).bind fun y_23 =>
 some y_23))

def laws_eqIntS (a_:(List Int)) (b_:(List Int)):Option (Bool) :=
 cond (neI (a_.length:Int) (b_.length:Int))
 (some false)
 ((iter (ρ:=(Unit) ⊕ (Unit)) (fun s_2:Int =>
 cond (ltI s_2 (a_.length:Int))
 ((at? a_ s_2).bind fun e_10 =>
 (at? b_ s_2).bind fun e_15 =>
 cond (neI e_10 e_15)
 (some (.inr (.inl ())))
 (some (.inl (addI s_2 1))))
 (some (.inr (.inr ())))) 0).bind fun r_21 =>
 Sum.elim (fun _r_21 =>
 some false)
 (fun _r_21 =>
 some true) r_21)

def laws_eqNode (a_:TNode) (b_:TNode):Option (Bool) :=
 (laws_eqIntS a_.vars b_.vars).bind fun y_1 =>
 cond y_1
 ((laws_eqIntS a_.reach b_.reach).bind fun y_5 =>
 cond y_5
 (cond (neI a_.shared b_.shared)
 (some false)
 (cond (neI a_.many b_.many)
 (some false)
 (some true)))
 (some false))
 (some false)

def laws_eqNodeS (a_:(List TNode)) (b_:(List TNode)):Option (Bool) :=
 cond (neI (a_.length:Int) (b_.length:Int))
 (some false)
 ((iter (ρ:=(Unit) ⊕ (Unit)) (fun s_2:Int =>
 cond (ltI s_2 (a_.length:Int))
 ((at? a_ s_2).bind fun e_10 =>
 (at? b_ s_2).bind fun e_15 =>
 (laws_eqNode e_10 e_15).bind fun y_20 =>
 cond y_20
 (some (.inl (addI s_2 1)))
 (some (.inr (.inl ()))))
 (some (.inr (.inr ())))) 0).bind fun r_24 =>
 Sum.elim (fun _r_24 =>
 some false)
 (fun _r_24 =>
 some true) r_24)

def laws_eqStructure (a_:TStructure) (b_:TStructure):Option (Bool) :=
 (laws_eqNodeS a_.nodes b_.nodes).bind fun y_1 =>
 cond y_1
 ((laws_eqIntS a_.next b_.next).bind fun y_5 =>
 cond y_5
 (some true)
 (some false))
 (some false)

def laws_eqStructureS (a_:(List TStructure)) (b_:(List TStructure)):Option (Bool) :=
 cond (neI (a_.length:Int) (b_.length:Int))
 (some false)
 ((iter (ρ:=(Unit) ⊕ (Unit)) (fun s_2:Int =>
 cond (ltI s_2 (a_.length:Int))
 ((at? a_ s_2).bind fun e_10 =>
 (at? b_ s_2).bind fun e_15 =>
 (laws_eqStructure e_10 e_15).bind fun y_20 =>
 cond y_20
 (some (.inl (addI s_2 1)))
 (some (.inr (.inl ()))))
 (some (.inr (.inr ())))) 0).bind fun r_24 =>
 Sum.elim (fun _r_24 =>
 some false)
 (fun _r_24 =>
 some true) r_24)

def laws_heldIntS (a_:(List Int)) (k_:Int):Option (Int) :=
 (iter (ρ:=(Int) ⊕ (Int)) (fun s_1:Int × Int =>
 cond (ltI s_1.2 (a_.length:Int))
 ((at? a_ s_1.2).bind fun e_9 =>
 cond (neI e_9 s_1.1)
 (some (.inr (.inl (-1))))
 (some (.inl (addI s_1.1 1,addI s_1.2 1))))
 (some (.inr (.inr s_1.1)))) (k_,0)).bind fun r_15 =>
 Sum.elim (fun r_15 =>
 some r_15)
 (fun r_15 =>
 some r_15) r_15

def laws_heldNodeS (a_:(List TNode)) (k_:Int):Option (Int) :=
 (iter (ρ:=(Int) ⊕ (Int)) (fun s_1:Int × Int =>
 cond (ltI s_1.2 (a_.length:Int))
 ((at? a_ s_1.2).bind fun e_9 =>
 (laws_heldIntS e_9.vars s_1.1).bind fun y_14 =>
 cond (ltI y_14 0)
 (some (.inr (.inl (-1))))
 ((at? a_ s_1.2).bind fun _ =>
 (laws_heldIntS e_9.reach y_14).bind fun y_23 =>
 cond (ltI y_23 0)
 (some (.inr (.inl (-1))))
 ((at? a_ s_1.2).bind fun _ =>
 cond (neI e_9.shared y_23)
 (some (.inr (.inl (-1))))
 ((at? a_ s_1.2).bind fun _ =>
 cond (neI e_9.many (addI y_23 1))
 (some (.inr (.inl (-1))))
 (some (.inl (addI (addI y_23 1) 1,addI s_1.2 1)))))))
 (some (.inr (.inr s_1.1)))) (k_,0)).bind fun r_39 =>
 Sum.elim (fun r_39 =>
 some r_39)
 (fun r_39 =>
 some r_39) r_39

def laws_heldStructureS (a_:(List TStructure)) (k_:Int):Option (Int) :=
 (iter (ρ:=(Int) ⊕ (Int)) (fun s_1:Int × Int =>
 cond (ltI s_1.2 (a_.length:Int))
 ((at? a_ s_1.2).bind fun e_9 =>
 (laws_heldNodeS e_9.nodes s_1.1).bind fun y_14 =>
 cond (ltI y_14 0)
 (some (.inr (.inl (-1))))
 ((at? a_ s_1.2).bind fun _ =>
 (laws_heldIntS e_9.next y_14).bind fun y_23 =>
 cond (ltI y_23 0)
 (some (.inr (.inl (-1))))
 (some (.inl (y_23,addI s_1.2 1)))))
 (some (.inr (.inr s_1.1)))) (k_,0)).bind fun r_27 =>
 Sum.elim (fun r_27 =>
 some r_27)
 (fun r_27 =>
 some r_27) r_27

def laws_FnExactAddToSet (aSet:(List TStructure)) (aS:TStructure):Option (Bool) :=
 (laws_szStructureS aSet 1048576).bind fun y_1 =>
 cond (ltI y_1 0)
 (some true)
 ((laws_szStructure aS y_1).bind fun y_5 =>
 cond (ltI y_5 0)
 (some true)
 ((laws_toStructureS aSet).bind fun y_9 =>
 (laws_toStructure aS).bind fun y_12 =>
 (spec_AddToSet y_9 y_12).bind fun y_15 =>
 (laws_toStructureS aSet).bind fun _ =>
 (laws_toStructure aS).bind fun _ =>
 (impl_AddToSet y_9 y_12).bind fun y_22 =>
 (laws_eqStructureS y_22 y_15).bind fun y_25 =>
 cond y_25
 ((laws_toStructureS aSet).bind fun _ =>
 (laws_eqStructureS y_9 y_9).bind fun y_31 =>
 cond y_31
 ((laws_toStructure aS).bind fun _ =>
 (laws_eqStructure y_12 y_12).bind fun y_37 =>
 cond y_37
 ((markO zal y_9 1).bind fun r_41 =>
 (markO mkF_markStructure y_12 r_41.2).bind fun r_63 =>
 cond (ltI r_63.2 0)
 (some false)
 ((laws_eqStructureS y_22 y_15).bind fun y_85 =>
 cond y_85
 ((markO zal y_22 1).bind fun r_89 =>
 (laws_heldStructureS r_89.1 1).bind fun y_110 =>
 cond (ltI y_110 0)
 (some false)
 (cond (neI y_110 r_89.2)
 (some false)
 ((laws_toStructureS aSet).bind fun y_115 =>
 (laws_toStructure aS).bind fun y_118 =>
 (impl_AddToSet y_115 y_118).bind fun y_121 =>
 (laws_eqStructureS y_121 y_15).bind fun y_124 =>
 cond y_124
 ((laws_heldStructureS r_89.1 1).bind fun _ =>
 some true)
 (some false))))
 (some false)))
 (some false))
 (some false))
 (some false)))

def spec_l18Copy (set:(List TStructure)):Option ((List TStructure)) :=
 (iter (ρ:=(List TStructure)) (fun s_1:(List TStructure) × Int =>
 cond (ltI s_1.2 (set.length:Int))
 ((at? set s_1.2).bind fun e_9 =>
 (spec_l12Copy e_9).bind fun y_14 =>
 (room (s_1.1.length + [y_14].length) 48).bind fun _ =>
 some (.inl (s_1.1 ++ [y_14],addI s_1.2 1)))
 (some (.inr s_1.1))) ([],0)).bind fun r_19 =>
 some r_19

def spec_UniteSets (a_:(List TStructure)) (b_:(List TStructure)):Option ((List TStructure)) :=
 (spec_l18Copy a_).bind fun y_1 =>
 (iter (ρ:=(List TStructure)) (fun s_4:(List TStructure) × Int =>
 cond (ltI s_4.2 (b_.length:Int))
 ((at? b_ s_4.2).bind fun e_12 =>
 (spec_AddToSet s_4.1 e_12).bind fun y_17 =>
 some (.inl (y_17,addI s_4.2 1)))
 (some (.inr s_4.1))) (y_1,0)).bind fun r_20 =>
 some r_20

def impl_UniteSets (a_:(List TStructure)) (b_:(List TStructure)):Option ((List TStructure)) :=
 (impl_ownSet a_).bind fun y_1 =>
 (iter (ρ:=(List TStructure)) (fun s_4:(List TStructure) × Int =>
 cond (ltI s_4.2 (b_.length:Int))
 ((at? b_ s_4.2).bind fun e_12 =>
 (impl_AddToSet s_4.1 e_12).bind fun y_18 =>
 some (.inl (y_18,addI s_4.2 1)))
 (some (.inr s_4.1))) (y_1,0)).bind fun r_21 =>
 some r_21

def laws_FnExactUniteSets (aA:(List TStructure)) (aB:(List TStructure)):Option (Bool) :=
 (laws_szStructureS aA 1048576).bind fun y_1 =>
 cond (ltI y_1 0)
 (some true)
 ((laws_szStructureS aB y_1).bind fun y_5 =>
 cond (ltI y_5 0)
 (some true)
 ((laws_toStructureS aA).bind fun y_9 =>
 (laws_toStructureS aB).bind fun y_12 =>
 (spec_UniteSets y_9 y_12).bind fun y_15 =>
 (laws_toStructureS aA).bind fun _ =>
 (laws_toStructureS aB).bind fun _ =>
 (impl_UniteSets y_9 y_12).bind fun y_22 =>
 (laws_eqStructureS y_22 y_15).bind fun y_25 =>
 cond y_25
 ((laws_toStructureS aA).bind fun _ =>
 (laws_eqStructureS y_9 y_9).bind fun y_31 =>
 cond y_31
 ((laws_toStructureS aB).bind fun _ =>
 (laws_eqStructureS y_12 y_12).bind fun y_37 =>
 cond y_37
 ((markO zal y_9 1).bind fun r_41 =>
 (markO zal y_12 r_41.2).bind fun r_61 =>
 cond (ltI r_61.2 0)
 (some false)
 ((laws_eqStructureS y_22 y_15).bind fun y_81 =>
 cond y_81
 ((markO zal y_22 1).bind fun r_85 =>
 (laws_heldStructureS r_85.1 1).bind fun y_104 =>
 cond (ltI y_104 0)
 (some false)
 (cond (neI y_104 r_85.2)
 (some false)
 ((laws_toStructureS aA).bind fun y_109 =>
 (laws_toStructureS aB).bind fun y_112 =>
 (impl_UniteSets y_109 y_112).bind fun y_115 =>
 (laws_eqStructureS y_115 y_15).bind fun y_118 =>
 cond y_118
 ((laws_heldStructureS r_85.1 1).bind fun _ =>
 some true)
 (some false))))
 (some false)))
 (some false))
 (some false))
 (some false)))

def laws_szHeap (a_:THeap) (left:Int):Option (Int) :=
 (laws_szIntS a_.vars left).bind fun y_1 =>
 cond (ltI y_1 0)
 (some (-1))
 ((laws_szIntS a_.next y_1).bind fun y_5 =>
 cond (ltI y_5 0)
 (some (-1))
 (some y_5))

def laws_szHeapS (a_:(List THeap)) (left:Int):Option (Int) :=
 cond (ltI (subI left (a_.length:Int)) 0)
 (some (-1))
 ((iter (ρ:=(Int) ⊕ (Int)) (fun s_2:Int × Int =>
 cond (ltI s_2.2 (a_.length:Int))
 ((at? a_ s_2.2).bind fun e_10 =>
 (laws_szHeap e_10 s_2.1).bind fun y_15 =>
 cond (ltI y_15 0)
 (some (.inr (.inl (-1))))
 (some (.inl (y_15,addI s_2.2 1))))
 (some (.inr (.inr s_2.1)))) (subI left (a_.length:Int),0)).bind fun r_19 =>
 Sum.elim (fun r_19 =>
 some r_19)
 (fun r_19 =>
 some r_19) r_19)

def laws_toHeap (a_:THeap):Option (THeap) :=
 (laws_toIntS a_.vars).bind fun y_1 =>
 (laws_toIntS a_.next).bind fun y_4 =>
 some (⟨y_1,y_4⟩:THeap)

def laws_toHeapS (a_:(List THeap)):Option ((List THeap)) :=
 (roomI (a_.length:Int) 48).bind fun _ =>
 (iter (ρ:=(List THeap)) (fun s_5:Int × (List THeap) =>
 cond (ltI s_5.1 (a_.length:Int))
 ((at? a_ s_5.1).bind fun e_13 =>
 (laws_toHeap e_13).bind fun y_18 =>
 (at? s_5.2 s_5.1).bind fun e_21 =>
 some (.inl (addI s_5.1 1,s_5.2.set s_5.1.toNat y_18)))
 (some (.inr s_5.2))) (0,List.replicate (a_.length:Int).toNat ((⟨[],[]⟩:THeap):THeap))).bind fun r_27 =>
 some r_27

def spec_l7Cells (h_:THeap):Option (Bool) :=
 (iter (ρ:=(Unit) ⊕ (Unit)) (fun s_1:Int =>
 cond (ltI s_1 (h_.vars.length:Int))
 ((at? h_.vars s_1).bind fun e_9 =>
 (spec_l1In e_9 (-1) (subI (h_.next.length:Int) 1)).bind fun y_14 =>
 cond y_14
 (some (.inl (addI s_1 1)))
 (some (.inr (.inl ()))))
 (some (.inr (.inr ())))) 0).bind fun r_18 =>
 Sum.elim (fun _r_18 =>
 some false)
 (fun _r_18 =>
 (iter (ρ:=(Bool) ⊕ (Unit)) (fun s_26:Int =>
 cond (ltI s_26 (h_.next.length:Int))
 ((at? h_.next s_26).bind fun e_34 =>
 (spec_l1In e_34 (-1) (subI (h_.next.length:Int) 1)).bind fun y_39 =>
 cond y_39
 (some (.inl (addI s_26 1)))
 (some (.inr (.inl false))))
 (some (.inr (.inr ())))) 0).bind fun r_43 =>
 Sum.elim (fun r_43 =>
 some r_43)
 (fun _r_43 =>
 some true) r_43) r_18

def spec_Positions (list:(List Int)) (n_:Int):Option ((List Int)) :=
 (iter (ρ:=(List Int)) (fun s_1:(List Int) × Int =>
 cond (ltI s_1.2 (list.length:Int))
 ((at? list s_1.2).bind fun e_9 =>
 cond (eqI e_9 n_)
 ((room (s_1.1.length + [s_1.2].length) 8).bind fun _ =>
 some (.inl (s_1.1 ++ [s_1.2],addI s_1.2 1)))
 (some (.inl (s_1.1,addI s_1.2 1))))
 (some (.inr s_1.1))) ([],0)).bind fun r_17 =>
 some r_17

def spec_l3Of (on:Bool):Option (Int) :=
 cond on
 (some 2)
 (some 0)

def spec_l7Has (list:(List Int)) (n_:Int):Option (Bool) :=
 (spec_Positions list n_).bind fun y_1 =>
 some (ltI 0 (y_1.length:Int))

def spec_Followed (h_:THeap) (cell:Int):Option ((List Int)) :=
 (iter (ρ:=((List Int)) ⊕ (Unit)) (fun s_1:Int × (List Int) =>
 cond (neI s_1.1 (-1))
 ((spec_l7Has s_1.2 s_1.1).bind fun y_9 =>
 cond y_9
 (some (.inr (.inl s_1.2)))
 ((spec_l1In s_1.1 0 (subI (h_.next.length:Int) 1)).bind fun y_13 =>
 cond y_13
 ((room (s_1.2.length + [s_1.1].length) 8).bind fun _ =>
 (at? h_.next s_1.1).bind fun e_19 =>
 some (.inl (e_19,s_1.2 ++ [s_1.1])))
 (some (.inr (.inr ())))))
 (some (.inr (.inl s_1.2)))) (cell,[])).bind fun r_24 =>
 Sum.elim (fun r_24 =>
 some r_24)
 (fun _r_24 =>
 some []) r_24

def spec_StructureOf (h_:THeap):Option (TStructure) :=
 (spec_l7Cells h_).bind fun y_1 =>
 cond y_1
 (cond (ltI 10 (h_.next.length:Int))
 (some (⟨[],[]⟩:TStructure))
 ((spec_l1In (h_.vars.length:Int) 1 4).bind fun y_6 =>
 cond y_6
 ((iter (ρ:=(List TNode) × (List Int)) (fun s_10:Int × (List TNode) × (List Int) =>
 cond (ltI s_10.1 (h_.next.length:Int))
 ((spec_Positions h_.next s_10.1).bind fun y_18 =>
 (spec_l3Of (ltI 1 (y_18.length:Int))).bind fun y_21 =>
 (iter (ρ:=(List Int) × (List Int)) (fun s_25:Int × (List Int) × (List Int) =>
 cond (ltI s_25.1 (h_.vars.length:Int))
 ((at? h_.vars s_25.1).bind fun e_33 =>
 (spec_l3Of (eqI e_33 s_10.1)).bind fun y_38 =>
 (room (s_25.2.1.length + [y_38].length) 8).bind fun _ =>
 (at? h_.vars s_25.1).bind fun _ =>
 (spec_Followed h_ e_33).bind fun y_48 =>
 (spec_l7Has y_48 s_10.1).bind fun y_51 =>
 (spec_l3Of y_51).bind fun y_54 =>
 (room (s_25.2.2.length + [y_54].length) 8).bind fun _ =>
 some (.inl (addI s_25.1 1,s_25.2.1 ++ [y_38],s_25.2.2 ++ [y_54])))
 (some (.inr (s_25.2.1,s_25.2.2)))) (0,[],[])).bind fun r_59 =>
 (room (s_10.2.1.length + [(⟨r_59.1,r_59.2,y_21,0⟩:TNode)].length) 64).bind fun _ =>
 (iter (ρ:=(List Int)) (fun s_66:Int × (List Int) =>
 cond (ltI s_66.1 (h_.next.length:Int))
 ((at? h_.next s_10.1).bind fun e_74 =>
 (spec_l3Of (eqI e_74 s_66.1)).bind fun y_79 =>
 (room (s_66.2.length + [y_79].length) 8).bind fun _ =>
 some (.inl (addI s_66.1 1,s_66.2 ++ [y_79])))
 (some (.inr s_66.2))) (0,s_10.2.2)).bind fun r_84 =>
 some (.inl (addI s_10.1 1,s_10.2.1 ++ [(⟨r_59.1,r_59.2,y_21,0⟩:TNode)],r_84)))
 (some (.inr (s_10.2.1,s_10.2.2)))) (0,[],[])).bind fun r_89 =>
 some (⟨r_89.1,r_89.2⟩:TStructure))
 (some (⟨[],[]⟩:TStructure))))
 (some (⟨[],[]⟩:TStructure))

def spec_AbstractionOf (h_:THeap):Option (TStructure) :=
 (spec_StructureOf h_).bind fun y_1 =>
 (spec_Blur y_1).bind fun y_4 =>
 some y_4

def spec_AbstractAll (list:(List THeap)):Option ((List TStructure)) :=
 (iter (ρ:=(List TStructure)) (fun s_1:(List TStructure) × Int =>
 cond (ltI s_1.2 (list.length:Int))
 ((at? list s_1.2).bind fun e_9 =>
 (spec_AbstractionOf e_9).bind fun y_14 =>
 (spec_AddToSet s_1.1 y_14).bind fun y_17 =>
 some (.inl (y_17,addI s_1.2 1)))
 (some (.inr s_1.1))) ([],0)).bind fun r_20 =>
 some r_20

def impl_Heap_isCell (h_:THeap) (n_:Int):Option (Bool) :=
 (impl_within n_ 0 (subI (h_.next.length:Int) 1)).bind fun y_1 =>
 some y_1

def impl_Heap_areCells_1 (n_:Int) (c0:THeap):Option (Bool) :=
 cond (neI n_ (-1))
 ((impl_Heap_isCell c0 n_).bind fun y_2 =>
 some (notB y_2))
 (some false)

def impl_Heap_areCells (h_:THeap):Option (Bool) :=
 (slices_Concat_int [h_.vars,h_.next]).bind fun y_1 =>
 (slices_ContainsFunc_int y_1 (fun x0=>impl_Heap_areCells_1 x0 h_)).bind fun y_4 =>
 some (notB y_4)

def impl_Positions (list:(List Int)) (n_:Int):Option ((List Int)) :=
 (iter (ρ:=(List Int)) (fun s_1:(List Int) × Int =>
 cond (ltI s_1.2 (list.length:Int))
 ((at? list s_1.2).bind fun e_9 =>
 cond (eqI e_9 n_)
 ((room (s_1.1.length + [s_1.2].length) 8).bind fun _ =>
 some (.inl (s_1.1 ++ [s_1.2],addI s_1.2 1)))
 (some (.inl (s_1.1,addI s_1.2 1))))
 (some (.inr s_1.1))) ([],0)).bind fun r_17 =>
 some r_17

def impl_truthOf (b_:Bool):Option (Int) :=
 cond b_
 (some 2)
 (some 0)

def slices_Index_int (s:(List Int)) (v:Int):Option (Int) :=
 (iter (ρ:=(Int) ⊕ (Unit)) (fun s_1:Int =>
 cond (ltI s_1 (s.length:Int))
 ((at? s s_1).bind fun e_9 =>
 cond (eqI v e_9)
 (some (.inr (.inl s_1)))
 (some (.inl (addI s_1 1))))
 (some (.inr (.inr ())))) 0).bind fun r_15 =>
 Sum.elim (fun r_15 =>
 some r_15)
 (fun _r_15 =>
 some (-1)) r_15

def slices_Contains_int (s:(List Int)) (v:Int):Option (Bool) :=
 (slices_Index_int s v).bind fun y_1 =>
 some (leI 0 y_1)

def impl_Followed (h_:THeap) (cell:Int):Option ((List Int)) :=
 (iter (ρ:=((List Int)) ⊕ (Unit)) (fun s_1:(List Int) × Int =>
 cond (neI s_1.2 (-1))
 ((impl_Heap_isCell h_ s_1.2).bind fun y_9 =>
 cond y_9
 ((slices_Contains_int s_1.1 s_1.2).bind fun y_13 =>
 cond y_13
 (some (.inr (.inl s_1.1)))
 ((room (s_1.1.length + [s_1.2].length) 8).bind fun _ =>
 (at? h_.next s_1.2).bind fun e_19 =>
 some (.inl (s_1.1 ++ [s_1.2],e_19))))
 (some (.inr (.inr ()))))
 (cond (eqI cell (-1))
 ((impl_Heap_isCell h_ s_1.2).bind fun y_25 =>
 cond y_25
 ((slices_Contains_int s_1.1 s_1.2).bind fun y_29 =>
 cond y_29
 (some (.inr (.inl s_1.1)))
 ((room (s_1.1.length + [s_1.2].length) 8).bind fun _ =>
 (at? h_.next s_1.2).bind fun e_35 =>
 some (.inl (s_1.1 ++ [s_1.2],e_35))))
 (some (.inr (.inr ()))))
 (some (.inr (.inl s_1.1))))) ([],cell)).bind fun r_40 =>
 Sum.elim (fun r_40 =>
 some r_40)
 (fun _r_40 =>
 some []) r_40

def impl_StructureOf (h_:THeap):Option (TStructure) :=
 (impl_Heap_areCells h_).bind fun y_1 =>
 cond y_1
 (cond (ltI 10 (h_.next.length:Int))
 (some (⟨[],[]⟩:TStructure))
 ((impl_within (h_.vars.length:Int) 1 4).bind fun y_6 =>
 cond y_6
 ((iter (ρ:=(List TNode) × (List Int)) (fun s_10:Int × (List TNode) × (List Int) =>
 cond (ltI s_10.1 (h_.next.length:Int))
 ((impl_Positions h_.next s_10.1).bind fun y_18 =>
 (impl_truthOf (ltI 1 (y_18.length:Int))).bind fun y_21 =>
 (iter (ρ:=(List Int) × (List Int)) (fun s_25:Int × (List Int) × (List Int) =>
 cond (ltI s_25.1 (h_.vars.length:Int))
 ((at? h_.vars s_25.1).bind fun e_33 =>
 (impl_truthOf (eqI e_33 s_10.1)).bind fun y_38 =>
 (room (s_25.2.1.length + [y_38].length) 8).bind fun _ =>
 (impl_Followed h_ e_33).bind fun y_43 =>
 (slices_Contains_int y_43 s_10.1).bind fun y_46 =>
 (impl_truthOf y_46).bind fun y_49 =>
 (room (s_25.2.2.length + [y_49].length) 8).bind fun _ =>
 some (.inl (addI s_25.1 1,s_25.2.1 ++ [y_38],s_25.2.2 ++ [y_49])))
 (some (.inr (s_25.2.1,s_25.2.2)))) (0,[],[])).bind fun r_54 =>
 (room (s_10.2.1.length + [(⟨r_54.1,r_54.2,y_21,0⟩:TNode)].length) 64).bind fun _ =>
 (iter (ρ:=(List Int)) (fun s_61:Int × (List Int) =>
 cond (ltI s_61.1 (h_.next.length:Int))
 ((at? h_.next s_10.1).bind fun e_69 =>
 (impl_truthOf (eqI e_69 s_61.1)).bind fun y_74 =>
 (room (s_61.2.length + [y_74].length) 8).bind fun _ =>
 some (.inl (addI s_61.1 1,s_61.2 ++ [y_74])))
 (some (.inr s_61.2))) (0,s_10.2.2)).bind fun r_79 =>
 some (.inl (addI s_10.1 1,s_10.2.1 ++ [(⟨r_54.1,r_54.2,y_21,0⟩:TNode)],r_79)))
 (some (.inr (s_10.2.1,s_10.2.2)))) (0,[],[])).bind fun r_84 =>
 some (⟨r_84.1,r_84.2⟩:TStructure))
 (some (⟨[],[]⟩:TStructure))))
 (some (⟨[],[]⟩:TStructure))

def impl_AbstractionOf (h_:THeap):Option (TStructure) :=
 (impl_StructureOf h_).bind fun y_1 =>
 (impl_Blur y_1).bind fun y_4 =>
 some y_4

def impl_AbstractAll (list:(List THeap)):Option ((List TStructure)) :=
 (iter (ρ:=(List TStructure)) (fun s_1:(List TStructure) × Int =>
 cond (ltI s_1.2 (list.length:Int))
 ((at? list s_1.2).bind fun e_9 =>
 (impl_AbstractionOf e_9).bind fun y_15 =>
 (impl_AddToSet s_1.1 y_15).bind fun y_18 =>
 some (.inl (y_18,addI s_1.2 1)))
 (some (.inr s_1.1))) ([],0)).bind fun r_21 =>
 some r_21

def laws_eqHeap (a_:THeap) (b_:THeap):Option (Bool) :=
 (laws_eqIntS a_.vars b_.vars).bind fun y_1 =>
 cond y_1
 ((laws_eqIntS a_.next b_.next).bind fun y_5 =>
 cond y_5
 (some true)
 (some false))
 (some false)

def laws_eqHeapS (a_:(List THeap)) (b_:(List THeap)):Option (Bool) :=
 cond (neI (a_.length:Int) (b_.length:Int))
 (some false)
 ((iter (ρ:=(Unit) ⊕ (Unit)) (fun s_2:Int =>
 cond (ltI s_2 (a_.length:Int))
 ((at? a_ s_2).bind fun e_10 =>
 (at? b_ s_2).bind fun e_15 =>
 (laws_eqHeap e_10 e_15).bind fun y_20 =>
 cond y_20
 (some (.inl (addI s_2 1)))
 (some (.inr (.inl ()))))
 (some (.inr (.inr ())))) 0).bind fun r_24 =>
 Sum.elim (fun _r_24 =>
 some false)
 (fun _r_24 =>
 some true) r_24)

def laws_FnExactAbstractAll (aList:(List THeap)):Option (Bool) :=
 (laws_szHeapS aList 1048576).bind fun y_1 =>
 cond (ltI y_1 0)
 (some true)
 ((laws_toHeapS aList).bind fun y_5 =>
 (spec_AbstractAll y_5).bind fun y_8 =>
 (laws_toHeapS aList).bind fun _ =>
 (impl_AbstractAll y_5).bind fun y_13 =>
 (laws_eqStructureS y_13 y_8).bind fun y_16 =>
 cond y_16
 ((laws_toHeapS aList).bind fun _ =>
 (laws_eqHeapS y_5 y_5).bind fun y_22 =>
 cond y_22
 ((markO mkF_markHeapS y_5 1).bind fun r_26 =>
 cond (ltI r_26.2 0)
 (some false)
 ((laws_eqStructureS y_13 y_8).bind fun y_45 =>
 cond y_45
 ((markO zal y_13 1).bind fun r_49 =>
 (laws_heldStructureS r_49.1 1).bind fun y_67 =>
 cond (ltI y_67 0)
 (some false)
 (cond (neI y_67 r_49.2)
 (some false)
 ((laws_toHeapS aList).bind fun y_72 =>
 (impl_AbstractAll y_72).bind fun y_75 =>
 (laws_eqStructureS y_75 y_8).bind fun y_78 =>
 cond y_78
 ((laws_heldStructureS r_49.1 1).bind fun _ =>
 some true)
 (some false))))
 (some false)))
 (some false))
 (some false))

end Go.Ev


namespace Go.Ev
open Wf (wf)
open Sm (sm lg)
theorem szIntS_ok {a:(List Int)} {left:Int} (hw:wf a) (hl:0≤left∧left≤1048576):SzOK (laws_szIntS a left) (sm a):=by
 unfold laws_szIntS
 have h:=(wf_list hw).1
 rw [subI_eq (by omega) (by omega),cond_lt]
 by_cases h:left - (a.length:Int) < 0
 ·rw [if_pos h];exact ⟨-1,rfl,by omega,by omega,by omega⟩
 ·rw [if_neg h];exact ⟨_,rfl,by omega,fun _=>⟨by omega,fun _ _=>trivial⟩,by omega⟩
theorem szNode_ok {a:TNode} {left:Int} (hw:wf a) (hl:0≤left∧left≤1048576):SzOK (laws_szNode a left) (sm a):=(szIntS_ok hw.1 hl).two fun n0 hn0=>(szIntS_ok hw.2.1 hn0).last
theorem szNodeS_ok {a:(List TNode)} {left:Int} (hw:wf a) (hl:0≤left∧left≤1048576):SzOK (laws_szNodeS a left) (sm a):=by
 refine szRow laws_szNode hl (wf_list hw).1 (fun x hx l hl=>szNode_ok ((wf_list hw).2 x hx) hl) (fun i x l n hi hx hn=>?_) (fun l=>?_) (by unfold laws_szNodeS;rfl)
 ·simp only [cond_lt,at_nat,hx,hn,Int.ofNat_lt,hi,if_true,Option.bind_some]
  split <;> rfl
 ·simp [cond_lt]
theorem szStructure_ok {a:TStructure} {left:Int} (hw:wf a) (hl:0≤left∧left≤1048576):SzOK (laws_szStructure a left) (sm a):=(szNodeS_ok hw.1 hl).two fun n0 hn0=>(szIntS_ok hw.2 hn0).last
theorem szStructureS_ok {a:(List TStructure)} {left:Int} (hw:wf a) (hl:0≤left∧left≤1048576):SzOK (laws_szStructureS a left) (sm a):=by
 refine szRow laws_szStructure hl (wf_list hw).1 (fun x hx l hl=>szStructure_ok ((wf_list hw).2 x hx) hl) (fun i x l n hi hx hn=>?_) (fun l=>?_) (by unfold laws_szStructureS;rfl)
 ·simp only [cond_lt,at_nat,hx,hn,Int.ofNat_lt,hi,if_true,Option.bind_some]
  split <;> rfl
 ·simp [cond_lt]
theorem toIntS_ok {a:(List Int)} (h:sm a):laws_toIntS a=some a:=by
 refine toRow (fun x=>some x) (mapM_self (fun _ _=>rfl)) (sm_len h) (b:=8) (by omega) (fun i x y o hi hx hy ho=>?_) (fun o=>?_) (by unfold laws_toIntS;rfl)
 ·obtain ⟨q,hq⟩:=ho
  cases hy
  simp only [cond_lt,at_nat,hx,hq,Int.ofNat_lt,hi,if_true,Option.bind_some,Int.toNat_natCast]
 ·simp [cond_lt]
theorem toNode_ok {a:TNode} (h:sm a):laws_toNode a=some a:=by
 unfold laws_toNode
 rw [toIntS_ok h.1,toIntS_ok h.2]
 rfl
theorem toNodeS_ok {a:(List TNode)} (h:sm a):laws_toNodeS a=some a:=by
 refine toRow (laws_toNode) (mapM_self (fun x hx=>toNode_ok (h.2 x hx))) (sm_len h) (b:=64) (by omega) (fun i x y o hi hx hy ho=>?_) (fun o=>?_) (by unfold laws_toNodeS;rfl)
 ·obtain ⟨q,hq⟩:=ho
  simp only [cond_lt,at_nat,hx,hq,hy,Int.ofNat_lt,hi,if_true,Option.bind_some,Int.toNat_natCast]
 ·simp [cond_lt]
theorem toStructure_ok {a:TStructure} (h:sm a):laws_toStructure a=some a:=by
 unfold laws_toStructure
 rw [toNodeS_ok h.1,toIntS_ok h.2]
 rfl
theorem toStructureS_ok {a:(List TStructure)} (h:sm a):laws_toStructureS a=some a:=by
 refine toRow (laws_toStructure) (mapM_self (fun x hx=>toStructure_ok (h.2 x hx))) (sm_len h) (b:=48) (by omega) (fun i x y o hi hx hy ho=>?_) (fun o=>?_) (by unfold laws_toStructureS;rfl)
 ·obtain ⟨q,hq⟩:=ho
  simp only [cond_lt,at_nat,hx,hq,hy,Int.ofNat_lt,hi,if_true,Option.bind_some,Int.toNat_natCast]
 ·simp [cond_lt]
theorem eqIntS_ok {a b:(List Int)} (h:lg a):laws_eqIntS a b=some (decide (a=b)):=by
 refine eqRow (lg_le h) (fun i x y hi hx hy=>?_) ?_ (by unfold laws_eqIntS;rfl)
 ·simp only [cond_lt,cond_ne,at_nat,hx,hy,Option.bind_some,Int.ofNat_lt,hi,if_true]
  by_cases he:x=y <;> simp [he]
 ·simp [cond_lt]
theorem eqNode_ok {a b:TNode} (h:lg a):laws_eqNode a b=some (decide (a=b)):=by
 unfold laws_eqNode
 rw [eqIntS_ok h.1,eqIntS_ok h.2]
 rcases a with ⟨a0,a1,a2,a3⟩
 rcases b with ⟨b0,b1,b2,b3⟩
 simp only [Option.bind_some,zai,cond_ne,neS_dec,cond_ndec,TNode.mk.injEq]
 by_cases h0:a0=b0 <;> by_cases h1:a1=b1 <;> by_cases h2:a2=b2 <;> by_cases h3:a3=b3 <;> simp [h0,h1,h2,h3]
theorem eqNodeS_ok {a b:(List TNode)} (h:lg a):laws_eqNodeS a b=some (decide (a=b)):=by
 refine eqRow (lg_le h) (fun i x y hi hx hy=>?_) ?_ (by unfold laws_eqNodeS;rfl)
 ·simp only [cond_lt,eqNode_ok (lg_mem h hx),zai,at_nat,hx,hy,Option.bind_some,Int.ofNat_lt,hi,if_true]
  by_cases he:x=y <;> simp [he]
 ·simp [cond_lt]
theorem eqStructure_ok {a b:TStructure} (h:lg a):laws_eqStructure a b=some (decide (a=b)):=by
 unfold laws_eqStructure
 rw [eqNodeS_ok h.1,eqIntS_ok h.2]
 rcases a with ⟨a0,a1⟩
 rcases b with ⟨b0,b1⟩
 simp only [Option.bind_some,zai,cond_ne,neS_dec,cond_ndec,TStructure.mk.injEq]
 by_cases h0:a0=b0 <;> by_cases h1:a1=b1 <;> simp [h0,h1]
theorem eqStructureS_ok {a b:(List TStructure)} (h:lg a):laws_eqStructureS a b=some (decide (a=b)):=by
 refine eqRow (lg_le h) (fun i x y hi hx hy=>?_) ?_ (by unfold laws_eqStructureS;rfl)
 ·simp only [cond_lt,eqStructure_ok (lg_mem h hx),zai,at_nat,hx,hy,Option.bind_some,Int.ofNat_lt,hi,if_true]
  by_cases he:x=y <;> simp [he]
 ·simp [cond_lt]
end Go.Ev


namespace Go.Ev
theorem cntE_markIntS_ok (x:Int) (k:Int) (hk:0≤k) (hb:k+cntE_markIntS x≤maxMark):(mkE_markIntS x k).2=k+cntE_markIntS x:=by
 unfold cntE_markIntS maxMark at *
 unfold mkE_markIntS
 have h0:addI k 1=k+1:=addI_eq (by omega) (by omega)
 simp only
 omega
theorem markIntS_snd (xs:List Int) (k:Int) (hk:0≤k) (hb:k+cntF_markIntS xs≤maxMark):(zae xs k).2=k+cntF_markIntS xs:=mkRow_snd cntE_markIntS_ok xs k hk hb
theorem heldIntS_ok {xs:List Int} {k0:Int} (hl:Sm.lg xs) (hk:0≤k0) (hb:k0+cntF_markIntS xs≤maxMark):laws_heldIntS (zae xs k0).1 k0=some (zae xs k0).2:=by
 unfold laws_heldIntS
 have hlg:∀ x∈xs,Sm.lg x:=hl.2
 rw [held_row (ys:=(zae xs k0).1) (E:=mkE_markIntS) (cnt:=cntE_markIntS) (xs:=xs) cntE_markIntS_ok (fun i x k hx0 hi hx hk hb=>?_) (fun k=>by simp [cond_lt]) rfl (by have:=hl.1;omega) hk hb]
 ·rfl
 ·have e0:at? (zae xs k0).1 (i:Int)=some (mkE_markIntS x k).1:=by rw [at_nat];exact hx
  unfold cntE_markIntS maxMark at hb
  have h0:addI k 1=k+1:=addI_eq (by omega) (by omega)
  have hc:ltI (i:Int) ((zae xs k0).1.length:Int)=true:=by simpa [ltI] using hi
  simp only [hc,e0,mkE_markIntS,cond_true,cond_false,Option.bind_some,neI,decide_true,Bool.not_true,]
theorem cntE_markNodeS_ok (x:TNode) (k:Int) (hk:0≤k) (hb:k+cntE_markNodeS x≤maxMark):(mkE_markNodeS x k).2=k+cntE_markNodeS x:=by
 unfold cntE_markNodeS maxMark at *
 unfold mkE_markNodeS
 have h0:=markIntS_snd x.vars k (by omega) (by unfold maxMark;omega)
 have h1:=markIntS_snd x.reach ((zae x.vars k).2) (by omega) (by unfold maxMark;omega)
 have h2:addI ((zae x.reach ((zae x.vars k).2)).2) 1=((zae x.reach ((zae x.vars k).2)).2)+1:=addI_eq (by omega) (by omega)
 have h3:addI (addI ((zae x.reach ((zae x.vars k).2)).2) 1) 1=(addI ((zae x.reach ((zae x.vars k).2)).2) 1)+1:=addI_eq (by omega) (by omega)
 simp only
 omega
theorem markNodeS_snd (xs:List TNode) (k:Int) (hk:0≤k) (hb:k+cntF_markNodeS xs≤maxMark):(zag xs k).2=k+cntF_markNodeS xs:=mkRow_snd cntE_markNodeS_ok xs k hk hb
theorem heldNodeS_ok {xs:List TNode} {k0:Int} (hl:Sm.lg xs) (hk:0≤k0) (hb:k0+cntF_markNodeS xs≤maxMark):laws_heldNodeS (zag xs k0).1 k0=some (zag xs k0).2:=by
 unfold laws_heldNodeS
 have hlg:∀ x∈xs,Sm.lg x:=hl.2
 rw [held_row (ys:=(zag xs k0).1) (E:=mkE_markNodeS) (cnt:=cntE_markNodeS) (xs:=xs) cntE_markNodeS_ok (fun i x k hx0 hi hx hk hb=>?_) (fun k=>by simp [cond_lt]) rfl (by have:=hl.1;omega) hk hb]
 ·rfl
 ·have e0:at? (zag xs k0).1 (i:Int)=some (mkE_markNodeS x k).1:=by rw [at_nat];exact hx
  unfold cntE_markNodeS maxMark at hb
  have h0:=markIntS_snd x.vars k (by omega) (by unfold maxMark;omega)
  have w0:=heldIntS_ok (xs:=x.vars) (k0:=k) (hl.2 x hx0).1 (by omega) (by unfold maxMark;omega)
  have n0:ltI (zae x.vars k).2 0=false:=by simp only [ltI,decide_eq_false_iff_not];omega
  have h1:=markIntS_snd x.reach ((zae x.vars k).2) (by omega) (by unfold maxMark;omega)
  have w1:=heldIntS_ok (xs:=x.reach) (k0:=(zae x.vars k).2) (hl.2 x hx0).2 (by omega) (by unfold maxMark;omega)
  have n1:ltI (zae x.reach ((zae x.vars k).2)).2 0=false:=by simp only [ltI,decide_eq_false_iff_not];omega
  have h2:addI ((zae x.reach ((zae x.vars k).2)).2) 1=((zae x.reach ((zae x.vars k).2)).2)+1:=addI_eq (by omega) (by omega)
  have h3:addI (addI ((zae x.reach ((zae x.vars k).2)).2) 1) 1=(addI ((zae x.reach ((zae x.vars k).2)).2) 1)+1:=addI_eq (by omega) (by omega)
  have hc:ltI (i:Int) ((zag xs k0).1.length:Int)=true:=by simpa [ltI] using hi
  simp only [hc,e0,mkE_markNodeS,cond_true,cond_false,Option.bind_some,neI,decide_true,Bool.not_true,w0,n0,w1,n1]
theorem cntE_markStructureS_ok (x:TStructure) (k:Int) (hk:0≤k) (hb:k+cntE_markStructureS x≤maxMark):(mkE_markStructureS x k).2=k+cntE_markStructureS x:=by
 unfold cntE_markStructureS maxMark at *
 unfold mkE_markStructureS
 have h0:=markNodeS_snd x.nodes k (by omega) (by unfold maxMark;omega)
 have h1:=markIntS_snd x.next ((zag x.nodes k).2) (by omega) (by unfold maxMark;omega)
 simp only
 omega
theorem markStructureS_snd (xs:List TStructure) (k:Int) (hk:0≤k) (hb:k+cntF_markStructureS xs≤maxMark):(zal xs k).2=k+cntF_markStructureS xs:=mkRow_snd cntE_markStructureS_ok xs k hk hb
theorem heldStructureS_ok {xs:List TStructure} {k0:Int} (hl:Sm.lg xs) (hk:0≤k0) (hb:k0+cntF_markStructureS xs≤maxMark):laws_heldStructureS (zal xs k0).1 k0=some (zal xs k0).2:=by
 unfold laws_heldStructureS
 have hlg:∀ x∈xs,Sm.lg x:=hl.2
 rw [held_row (ys:=(zal xs k0).1) (E:=mkE_markStructureS) (cnt:=cntE_markStructureS) (xs:=xs) cntE_markStructureS_ok (fun i x k hx0 hi hx hk hb=>?_) (fun k=>by simp [cond_lt]) rfl (by have:=hl.1;omega) hk hb]
 ·rfl
 ·have e0:at? (zal xs k0).1 (i:Int)=some (mkE_markStructureS x k).1:=by rw [at_nat];exact hx
  unfold cntE_markStructureS maxMark at hb
  have h0:=markNodeS_snd x.nodes k (by omega) (by unfold maxMark;omega)
  have w0:=heldNodeS_ok (xs:=x.nodes) (k0:=k) (hl.2 x hx0).1 (by omega) (by unfold maxMark;omega)
  have n0:ltI (zag x.nodes k).2 0=false:=by simp only [ltI,decide_eq_false_iff_not];omega
  have h1:=markIntS_snd x.next ((zag x.nodes k).2) (by omega) (by unfold maxMark;omega)
  have w1:=heldIntS_ok (xs:=x.next) (k0:=(zag x.nodes k).2) (hl.2 x hx0).2 (by omega) (by unfold maxMark;omega)
  have n1:ltI (zae x.next ((zag x.nodes k).2)).2 0=false:=by simp only [ltI,decide_eq_false_iff_not];omega
  have hc:ltI (i:Int) ((zal xs k0).1.length:Int)=true:=by simpa [ltI] using hi
  simp only [hc,e0,mkE_markStructureS,cond_true,cond_false,Option.bind_some,neI,decide_true,Bool.not_true,w0,n0,w1,n1]
theorem markStructure_snd (x:TStructure) (k:Int) (hk:0≤k) (hb:k+cntF_markStructure x≤maxMark):(mkF_markStructure x k).2=k+cntF_markStructure x:=by
 unfold cntF_markStructure maxMark at *
 unfold mkF_markStructure
 have h0:=markNodeS_snd x.nodes k (by omega) (by unfold maxMark;omega)
 have h1:=markIntS_snd x.next ((zag x.nodes k).2) (by omega) (by unfold maxMark;omega)
 simp only
 omega
end Go.Ev


namespace Go.Ev
def small (n:Nat):Prop:=n≤4000000

theorem findE {α:Type} (p:α→Bool):∀ (xs:List α) (i:Nat),
 foldE (β:=Unit) (ρ:=Int ⊕ Unit) (fun _ i x=>if p x then some (.inr (.inl (i:Int))) else some (.inl ())) (fun _=>some (.inr ())) () i xs =
  some (match xs.findIdx? p with | some j=>.inl ((i+j:Nat):Int) | none=>.inr ())
 | [],i=>rfl
 | x :: xs,i=>by
  rw [foldE]
  by_cases h:p x=true
  ·simp [h,List.findIdx?_cons]
  ·simp only [h,if_false,Bool.false_eq_true]
   rw [findE p xs (i+1),List.findIdx?_cons]
   simp only [h,if_false,Bool.false_eq_true]
   cases xs.findIdx? p with
   | none=>rfl
   | some j=>simp only [Option.map_some,Option.some.injEq,Sum.inl.injEq];omega

theorem within_eq (n lo hi:Int):impl_within n lo hi=some (decide (lo≤n∧n≤hi)):=by
 unfold impl_within
 by_cases h:lo≤n <;> simp [leI,ltI,h]
theorem l1In_eq (n lo hi:Int):spec_l1In n lo hi=some (decide (lo≤n∧n≤hi)):=by
 unfold spec_l1In
 by_cases h:lo≤n <;> simp [leI,ltI,h]

theorem isTruth_eq (a:Int):impl_IsTruth a=spec_IsTruth a:=by
 unfold impl_IsTruth spec_IsTruth
 simp [within_eq,l1In_eq]
theorem nodup_bound:∀ (n:Nat) (xs:List Int),xs.Nodup→(∀ x∈xs,0≤x∧x < n)→xs.length≤n
 | 0,xs,_,h=>by
  cases xs with
  | nil=>exact Nat.le_refl _
  | cons x xs=>have:=h x (List.mem_cons_self ..);omega
 | n+1,xs,hn,h=>by
  have h1:=nodup_bound n (xs.erase (n:Int)) (hn.erase _) (fun x hx=>by
   have hx':=(hn.mem_erase_iff).1 hx
   have:=h x hx'.2
   have hne:=hx'.1
   omega)
  by_cases hm:(n:Int)∈xs
  ·rw [List.length_erase_of_mem hm] at h1;omega
  ·rw [List.erase_of_not_mem hm] at h1;omega

theorem at_in {xs:List Int} {c:Int} (h:0≤c∧c < (xs.length:Int)):at? xs c=some (xs.getD c.toNat 0):=by
 unfold at?
 rw [if_pos h.1]
 have:c.toNat < xs.length:=by omega
 simp [List.getD,List.getElem?_eq_getElem this]
structure Seen (next out:List Int):Prop where
 nd:out.Nodup
 rng:∀ x∈out,0≤x∧x < (next.length:Int)
theorem Seen.len {next out:List Int} (h:Seen next out):out.length≤next.length:=nodup_bound _ _ h.nd h.rng
theorem Seen.push {next out:List Int} (h:Seen next out) {c:Int} (hc:c ∉ out) (hr:0≤c∧c < (next.length:Int)):Seen next (out ++ [c]) :=
 ⟨by rw [List.nodup_append];exact ⟨h.nd,by simp,fun a ha b hb=>by simp at hb;subst hb;rintro rfl;exact hc ha⟩,fun x hx=>by
  rcases List.mem_append.1 hx with hx | hx
  ·exact h.rng x hx
  ·simp at hx;subst hx;exact hr⟩

theorem indexF {α:Type} (xs:List α) (f:α→Option Bool) (p:α→Bool) (hf:∀ x∈xs,f x=some (p x)) (hl:small xs.length) :
 iter (ρ:=(Int) ⊕ (Unit)) (fun s_1:Int =>
  cond (ltI s_1 (xs.length:Int))
   ((at? xs s_1).bind fun e_12 =>
    (f e_12).bind fun y_17 =>
     cond y_17
      (some (.inr (.inl s_1)))
      (some (.inl (addI s_1 1))))
   (some (.inr (.inr ())))) 0=some (match xs.findIdx? p with | some j=>.inl (j:Int) | none=>.inr ()):=by
 rw [iter_list xs (fun (_:Unit) i=>i) (fun _ i x=>if p x=true then some (.inr (.inl (i:Int))) else some (.inl ())) (fun _=>some (.inr ())) (fun b i x hx=>?_) (fun b=>?_) (),findE]
 ·simp
 ·have hlt:=(List.getElem?_eq_some_iff.1 hx).1
  unfold small at hl
  simp only [at_nat,hx,Option.bind_some,ltI,zai,hf x (List.mem_of_getElem? hx)]
  rw [if_pos (by omega),addI_eq (by omega) (by omega)]
  cases p x <;> simp
 ·simp [ltI]
theorem containsF_of {α:Type} (xs:List α) (p:α→Bool):leI 0 (match xs.findIdx? p with | some j=>(j:Int) | none=>-1)=xs.any p:=by
 cases h:xs.findIdx? p with
 | none =>
  rw [List.findIdx?_eq_none_iff] at h
  have:xs.any p=false:=List.any_eq_false.2 fun x hx=>by simp [h x hx]
  rw [this];rfl
 | some j =>
  rw [List.findIdx?_eq_some_iff_getElem] at h
  obtain ⟨hj,hp,_⟩:=h
  have:xs.any p=true:=List.any_eq_true.2 ⟨_,List.getElem_mem hj,hp⟩
  rw [this]
  simp [leI]
theorem containsFunc_int (xs:List Int) (f:Int→Option Bool) (p:Int→Bool) (hf:∀ x∈xs,f x=some (p x)) (hl:small xs.length):slices_ContainsFunc_int xs f=some (xs.any p):=by
 unfold slices_ContainsFunc_int slices_IndexFunc_int
 rw [indexF xs f p hf hl,← containsF_of]
 cases xs.findIdx? p <;> rfl
theorem containsFunc_str (xs:List TStructure) (f:TStructure→Option Bool) (p:TStructure→Bool) (hf:∀ x∈xs,f x=some (p x)) (hl:small xs.length):slices_ContainsFunc_Structure xs f=some (xs.any p):=by
 unfold slices_ContainsFunc_Structure slices_IndexFunc_Structure
 rw [indexF xs f p hf hl,← containsF_of]
 cases xs.findIdx? p <;> rfl
theorem room_small {n b:Nat} (hn:n≤4000000) (hb:b≤1000):room n b=some ():=by
 unfold room maxBytes
 have:n * (b+1)≤4000000 * 1001:=Nat.mul_le_mul hn (by omega)
 rw [if_pos (by omega)]
def push (acc:List Int) (x:Int):List Int:=if x∈acc then acc else acc ++ [x]
def Tot {α:Type} (o:Option α) (Q:α→Prop):Prop:=∃ a,o=some a∧Q a
theorem Tot.ret {α:Type} {a:α} {Q:α→Prop} (h:Q a):Tot (some a) Q:=⟨a,rfl,h⟩
theorem Tot.bind {α β:Type} {o:Option α} {f:α→Option β} {P:α→Prop} {Q:β→Prop} (h:Tot o P) (hf:∀ a,P a→Tot (f a) Q):Tot (o.bind f) Q:=by
 obtain ⟨a,rfl,hP⟩:=h
 exact hf a hP
theorem Tot.mono {α:Type} {o:Option α} {P Q:α→Prop} (h:Tot o P) (hq:∀ a,P a→Q a):Tot o Q:=by
 obtain ⟨a,h1,h2⟩:=h
 exact ⟨a,h1,hq a h2⟩
theorem Tot.eq {α:Type} {o:Option α} {a:α} (h:Tot o (· = a)):o=some a:=by
 obtain ⟨b,h1,rfl⟩:=h
 exact h1
theorem Tot.of {α:Type} {o:Option α} {a:α} {Q:α→Prop} (h:o=some a) (hq:Q a):Tot o Q:=⟨a,h,hq⟩
theorem Tot.loop {σ ρ:Type} {step:σ→Option (σ ⊕ ρ)} {Q:ρ→Prop} (I:Nat→σ→Prop) (n:Nat) {s:σ} (h0:I 0 s)
 (h:∀ i s,I i s→i≤n→Tot (step s) (Sum.elim (fun s'=>i < n∧I (i+1) s') Q)):Tot (iter step s) Q:=by
 have key:∀ (k i:Nat) (s:σ),I i s→i+k=n→Tot (iter step s) Q:=by
  intro k
  induction k with
  | zero =>
   intro i s hI hk
   obtain ⟨o,ho,hq⟩:=h i s hI (by omega)
   cases o with
   | inl s'=>exact absurd hq.1 (by omega)
   | inr r=>exact ⟨r,iter_inr ho,hq⟩
  | succ k ih =>
   intro i s hI hk
   obtain ⟨o,ho,hq⟩:=h i s hI (by omega)
   cases o with
   | inl s'=>rw [iter_inl ho];exact ih (i+1) s' hq.2 (by omega)
   | inr r=>exact ⟨r,iter_inr ho,hq⟩
 exact key n 0 s h0 (by omega)
theorem loop_flat {α γ σ:Type} (S:List γ→Int→σ) (lo:Int) (xs:List α) (g:α→List γ) {acc:List γ} {step:σ→Option (σ ⊕ List γ)}
 (h:∀ (i:Nat) x b,xs[i]?=some x→b.length+(g x).length≤acc.length+(xs.flatMap g).length→step (S b (lo+i))=some (.inl (S (b ++ g x) (lo+i+1))))
 (he:∀ b,step (S b (lo+xs.length))=some (.inr b)):iter step (S acc lo)=some (acc ++ xs.flatMap g):=by
 have key:∀ (suf:List α) (i:Nat) (b:List γ),xs.drop i=suf→i+suf.length=xs.length→b.length+(suf.flatMap g).length=acc.length+(xs.flatMap g).length →
  iter step (S b (lo+i))=some (b ++ suf.flatMap g):=by
  intro suf
  induction suf with
  | nil =>
   intro i b _ hi _
   simp only [List.length_nil,Nat.add_zero] at hi
   subst hi
   rw [iter_inr (he b)];simp
  | cons x suf ih =>
   intro i b hd hi hb
   have hx:xs[i]?=some x:=by
    have:=congrArg (fun l=>l[0]?) hd
    simpa using this
   have hd2:xs.drop (i+1)=suf:=by
    have:=congrArg List.tail hd
    simpa using this
   simp only [List.length_cons] at hi
   simp only [List.flatMap_cons,List.length_append] at hb
   rw [iter_inl (h i x b hx (by omega))]
   have:=ih (i+1) (b ++ g x) hd2 (by omega) (by simp only [List.length_append];omega)
   rw [show lo+(i:Int)+1=lo+((i+1:Nat):Int) by omega,this]
   simp
 have:=key xs 0 acc rfl (by simp) rfl
 simpa using this
def Cells (next:List Int):Prop:=∀ x∈next,-1≤x∧x < (next.length:Int)
def lastI (xs:List Int):Int:=xs.getD (xs.length - 1) 0
theorem clone_int (xs:List Int) (h:small xs.length):slices_Clone_int xs=some xs:=by
 unfold slices_Clone_int lib_Clone
 rw [room_small h (by omega)]
 rfl
theorem take_snoc1 {α:Type} {xs:List α} {i:Nat} (h:i < xs.length):xs.take (i+1)=xs.take i ++ [xs[i]]:=by simp
theorem Tot.flat {α γ σ:Type} (S:List γ→Int→σ) (lo:Int) (xs:List α) (g:α→List γ) {acc:List γ} {step:σ→Option (σ ⊕ List γ)} {s:σ} {Q:List γ→Prop} (hs:s=S acc lo) (hQ:Q (acc ++ xs.flatMap g))
 (h:∀ (i:Nat) x b,xs[i]?=some x→b.length+(g x).length≤acc.length+(xs.flatMap g).length→Tot (step (S b (lo+i))) (· = .inl (S (b ++ g x) (lo+i+1))))
 (he:∀ b,Tot (step (S b (lo+xs.length))) (· = .inr b)):Tot (iter step s) Q:=by
 subst hs
 exact Tot.of (loop_flat S lo xs g (fun i x b hx hb=>(h i x b hx hb).eq) fun b=>(he b).eq) hQ
def t3 (b:Bool):Int:=if b then 2 else 0
theorem flatMap_len {α β:Type} (xs:List α) (f:α→List β) (n:Nat) (h:∀ x∈xs,(f x).length=n):(xs.flatMap f).length=xs.length * n:=by
 induction xs with
 | nil=>simp
 | cons x xs ih =>
  rw [List.flatMap_cons,List.length_append,h x (List.mem_cons_self ..),ih fun y hy=>h y (List.mem_cons_of_mem _ hy),List.length_cons,Nat.add_mul]
  omega
def firstR {ρ υ:Type} (o:Option ρ) (u:υ):ρ ⊕ υ:=match o with | some r=>.inl r | none=>.inr u
theorem Tot.first {ρ υ:Type} {step:Int→Option (Int ⊕ (ρ ⊕ υ))} {Q:ρ ⊕ υ→Prop} (n:Nat) (F:Nat→Option ρ) (u:υ)
 (h:∀ i:Nat,i < n→Tot (step i) (· = (match F i with | none=>.inl ((i:Int)+1) | some r=>.inr (.inl r)))) (he:Tot (step n) (· = .inr (.inr u)))
 (hQ:Q (firstR ((List.range n).findSome? F) u)):Tot (iter step 0) Q:=by
 refine Tot.loop (fun i s=>s=(i:Int)∧∀ j,j < i→F j=none) n ⟨rfl,fun j hj=>absurd hj (Nat.not_lt_zero _)⟩ fun i s hI hi=>?_
 obtain ⟨rfl,hI⟩:=hI
 by_cases hlt:i < n
 ·refine (h i hlt).mono fun o ho=>?_
  subst ho
  cases hF:F i with
  | none =>
   refine ⟨hlt,rfl,fun j hj=>?_⟩
   by_cases hji:j=i
   ·subst hji;exact hF
   ·exact hI j (by omega)
  | some r =>
   have:(List.range n).findSome? F=some r:=by
    rw [List.findSome?_eq_some_iff]
    refine ⟨List.range i,i,(List.range' (i+1) (n - i - 1)),?_,hF,fun j hj=>hI j (List.mem_range.1 hj)⟩
    rw [List.range_eq_range',List.range_eq_range',← List.range'_succ,show n - i - 1+1=n - i by omega]
    have:=@List.range'_append 0 i (n - i) 1
    simp only [Nat.one_mul,Nat.zero_add] at this
    rw [this]
    congr 1
    omega
   rw [this] at hQ
   exact hQ
 ·have:i=n:=by omega
  subst this
  refine he.mono fun o ho=>?_
  subst ho
  have:(List.range i).findSome? F=none:=by
   rw [List.findSome?_eq_none_iff]
   exact fun j hj=>hI j (List.mem_range.1 hj)
  rw [this] at hQ
  exact hQ
theorem findSome_all {ρ:Type} (p:Nat→Bool) (r:ρ):∀ xs:List Nat,xs.findSome? (fun i=>if p i then none else some r)=if xs.all p then none else some r
 | []=>rfl
 | x :: xs=>by
  rw [List.findSome?_cons,findSome_all p r xs]
  cases h:p x <;> simp [h]
theorem Tot.all {ρ υ:Type} {step:Int→Option (Int ⊕ (ρ ⊕ υ))} {Q:ρ ⊕ υ→Prop} (n:Nat) (p:Nat→Bool) (r:ρ) (u:υ)
 (h:∀ i:Nat,i < n→Tot (step i) (· = (if p i then .inl ((i:Int)+1) else .inr (.inl r)))) (he:Tot (step n) (· = .inr (.inr u)))
 (hQ:Q (if (List.range n).all p then .inr u else .inl r)):Tot (iter step 0) Q:=by
 refine Tot.first n (fun i=>if p i then none else some r) u (fun i hi=>?_) he ?_
 ·refine (h i hi).mono fun o ho=>?_
  rw [ho]
  cases p i <;> rfl
 ·rw [findSome_all]
  cases h:(List.range n).all p <;> simpa [h,firstR] using hQ

def wB (a b:Int):Bool:=decide (0≤a∧a≤2) && (decide (0≤b∧b≤2) && (decide (b=1) || decide (a=b)))
def listW (a b:List Int):Bool:=decide (a.length=b.length) && (List.range a.length).all fun i=>wB (a.getD i 0) (b.getD i 0)
theorem getD_at {α:Type} {xs:List α} {i:Nat} (h:i < xs.length) (d:α):at? xs (i:Int)=some (xs.getD i d):=by
 rw [at_nat,List.getElem?_eq_getElem h];simp [List.getD,h]
def zN:TNode:=⟨[],[],0,0⟩
def nodeW (x y:TNode):Bool:=listW x.vars y.vars && (listW x.reach y.reach && (wB x.shared y.shared && wB x.many y.many))
def okN (x:TNode):Prop:=small x.vars.length∧small x.reach.length
def nextV (s:TStructure) (i j:Int):Int :=
 if 0≤i∧i≤(s.nodes.length:Int) - 1 then if 0≤j∧j≤(s.nodes.length:Int) - 1 then if s.next.length=s.nodes.length * s.nodes.length then s.next.getD (i * s.nodes.length+j).toNat 0 else 1 else 1 else 1
theorem sq_small {n:Nat} (h:small n):n * n≤16000000000000:=Nat.le_trans (Nat.mul_le_mul h h) (by decide)
theorem place_in {n:Nat} {i j:Int} (hi:0≤i∧i≤(n:Int) - 1) (hj:0≤j∧j≤(n:Int) - 1):0≤i * n∧i * n+j < ((n * n:Nat):Int):=by
 have h1:i * n≤((n:Int) - 1) * n:=Int.mul_le_mul_of_nonneg_right hi.2 (by omega)
 have h2:0≤i * (n:Int):=Int.mul_nonneg hi.1 (by omega)
 rw [Int.sub_mul,Int.one_mul] at h1
 have h3:((n * n:Nat):Int)=(n:Int) * n:=by simp
 omega
theorem spec_nextOf (s:TStructure) (i j:Int) (hs:small s.nodes.length):spec_NextOf s i j=some (nextV s i j):=by
 unfold spec_NextOf nextV
 have hq:=sq_small hs
 have hs':=hs
 unfold small at hs'
 rw [l1In_eq,l1In_eq,subI_eq (by omega) (by omega)]
 have h3:((s.nodes.length * s.nodes.length:Nat):Int)=(s.nodes.length:Int) * s.nodes.length:=by simp
 rw [mulI_eq (by omega) (by omega)]
 simp only [Option.bind_some,zai,neI,cond_ndec]
 by_cases hi:0≤i∧i≤(s.nodes.length:Int) - 1
 ·rw [if_pos hi,if_pos hi]
  by_cases hj:0≤j∧j≤(s.nodes.length:Int) - 1
  ·rw [if_pos hj,if_pos hj]
   by_cases hn:s.next.length=s.nodes.length * s.nodes.length
   ·obtain ⟨p1,p2⟩:=place_in hi hj
    rw [if_pos (by omega),if_pos hn,mulI_eq (by omega) (by omega),addI_eq (by omega) (by omega),at_in (by omega)]
    rfl
   ·rw [if_neg (by omega),if_neg hn]
  ·rw [if_neg hj,if_neg hj]
 ·rw [if_neg hi,if_neg hi]
theorem impl_nextOf (s:TStructure) (i j:Int) (hs:small s.nodes.length):impl_NextOf s i j=some (nextV s i j):=by
 rw [← spec_nextOf s i j hs]
 unfold impl_NextOf spec_NextOf impl_Structure_isNode
 simp only [within_eq,l1In_eq,Option.bind_some]
def roundB (s t:TStructure) (to:List Int) (j:Nat):Bool :=
 wB (nextV s ((to.length:Int) - 1) j) (nextV t (lastI to) (to.getD j 0)) && (wB (nextV s j ((to.length:Int) - 1)) (nextV t (to.getD j 0) (lastI to)) && !(decide (j+1 < to.length) && (decide (to.getD j 0=lastI to) && !decide ((t.nodes.getD (lastI to).toNat zN).many=1))))
def fitB (s t:TStructure) (to:List Int):Bool:=nodeW (s.nodes.getD (to.length - 1) zN) (t.nodes.getD (lastI to).toNat zN) && (List.range to.length).all (roundB s t to)
def okS (s:TStructure):Prop:=small s.nodes.length∧∀ n∈s.nodes,okN n
theorem at_in' {α:Type} {xs:List α} {c:Int} (h:0≤c∧c < (xs.length:Int)) (d:α):at? xs c=some (xs.getD c.toNat d):=by
 unfold at?
 rw [if_pos h.1]
 have:c.toNat < xs.length:=by omega
 simp [List.getD,List.getElem?_eq_getElem this]
def rngT (t:TStructure) (to:List Int):Prop:=∀ x∈to,0≤x∧x < (t.nodes.length:Int)
def pre (s t:TStructure) (to:List Int):Prop:=to.length≤s.nodes.length∧rngT t to∧∀ i,i < to.length→fitB s t (to.take (i+1))=true
open Wf (wf)
open Sm (sm lg)
theorem cntI_len' (xs:List Int):cntF_markIntS xs=xs.length:=by
 unfold cntF_markIntS totC
 induction xs with
 | nil=>rfl
 | cons x xs ih =>
  rw [List.map_cons,List.sum_cons,ih,List.length_cons]
  show 1+xs.length=xs.length+1
  omega
theorem cnt_nodes {xs:List TNode} (h:sm xs):cntF_markNodeS xs≤2200000000000:=by
 have:=totC_le cntE_markNodeS 2097154 xs fun x hx=>by
  have hx:=h.2 x hx
  unfold cntE_markNodeS
  rw [cntI_len',cntI_len']
  have:=hx.1.1
  have:=hx.2.1
  omega
 refine Nat.le_trans this (Nat.le_trans (Nat.mul_le_mul_right _ h.1) (by decide))
theorem cnt_str {s:TStructure} (h:sm s):cntF_markNodeS s.nodes+cntF_markIntS s.next≤2200001048576:=by
 have h1:=cnt_nodes h.1
 rw [cntI_len']
 have:=h.2.1
 omega
open Wf (wf)
open Sm (sm lg)
open Wf (wf)
open Sm (sm lg)
open Wf (wf)
open Sm (sm lg)
def truthsB (xs:List Int):Bool:=xs.all fun x=>decide (0≤x∧x≤2)
theorem all_range {α:Type} (xs:List α) (p:α→Bool) (d:α):(List.range xs.length).all (fun i=>p (xs.getD i d))=xs.all p:=by
 have h:(List.range xs.length).map (fun i=>xs.getD i d)=xs:=by
  apply List.ext_getElem
  ·simp
  ·intro i h1 h2
   simp [List.getD,h2]
 have h2:((List.range xs.length).map (fun i=>xs.getD i d)).all p=(List.range xs.length).all (fun i=>p (xs.getD i d)):=by rw [List.all_map];rfl
 rw [h] at h2
 exact h2.symm
theorem spec_truths (xs:List Int) (h:small xs.length):spec_l12Truths xs=some (truthsB xs):=by
 unfold small at h
 unfold spec_l12Truths
 refine Tot.eq (Tot.bind (P:=(· = if truthsB xs then .inr () else .inl ())) (Tot.all xs.length (fun i=>decide (0≤xs.getD i 0∧xs.getD i 0≤2)) () () (fun i hi=>?_) ?_ ?_) fun r hr=>?_)
 ·simp only [ltI,zai,getD_at hi 0,Option.bind_some,spec_IsTruth,l1In_eq]
  rw [if_pos (by omega),addI_eq (by omega) (by omega)]
  by_cases hc:0≤xs.getD i 0∧xs.getD i 0≤2
  ·rw [if_pos hc,if_pos (by simpa using hc)];exact Tot.ret rfl
  ·rw [if_neg hc,if_neg (by simpa using hc)];exact Tot.ret rfl
 ·simp only [ltI,zai]
  rw [if_neg (by omega)]
  exact Tot.ret rfl
 ·rw [all_range xs (fun x=>decide (0≤x∧x≤2)) 0]
  rfl
 ·subst hr
  cases truthsB xs <;> exact Tot.ret rfl
theorem impl_truths (xs:List Int) (h:small xs.length):impl_areTruths xs=some (truthsB xs):=by
 unfold impl_areTruths
 rw [containsFunc_int xs (fun x0=>impl_areTruths_1 x0) (fun x=>!decide (0≤x∧x≤2)) (fun x _=>by unfold impl_areTruths_1 impl_IsTruth;rw [within_eq];rfl) h]
 simp only [Option.bind_some,Option.some.injEq,notB,truthsB]
 rw [List.not_any_eq_all_not]
 congr 1
 funext x
 simp
def nodeOkB (vars:Int) (x:TNode):Bool:=decide ((x.vars.length:Int)=vars) && (decide ((x.reach.length:Int)=vars) && (truthsB x.vars && (truthsB x.reach && (decide (0≤x.shared∧x.shared≤2) && decide (0≤x.many∧x.many≤1)))))
def isStrB (vars:Int) (s:TStructure):Bool:=decide (1≤vars∧vars≤4) && (decide (s.nodes.length≤10) && (decide (s.next.length=s.nodes.length * s.nodes.length) && (truthsB s.next && s.nodes.all (nodeOkB vars))))
structure shortS (s:TStructure):Prop where
 n:small s.nodes.length
 x:small s.next.length
 e:∀ y∈s.nodes,okN y
theorem shortS.ok {s:TStructure} (h:shortS s):okS s:=⟨h.n,h.e⟩
theorem short_sm {s:TStructure} (h:sm s):shortS s:=⟨by have:=h.1.1;unfold small;omega,by have:=h.2.1;unfold small;omega,fun y hy=>⟨by have:=(h.1.2 y hy).1.1;unfold small;omega,by have:=(h.1.2 y hy).2.1;unfold small;omega⟩⟩
theorem spec_isStructure (vars:Int) (s:TStructure) (h:shortS s):spec_IsStructure vars s=some (isStrB vars s):=by
 have hn:=h.n
 have hq:=sq_small hn
 unfold small at hn
 unfold spec_IsStructure
 refine Tot.eq (Tot.bind (P:=(· = if s.nodes.all (nodeOkB vars) then .inr () else .inl ())) (Tot.all s.nodes.length (fun i=>nodeOkB vars (s.nodes.getD i zN)) () () (fun i hi=>?_) ?_ ?_) fun r hr=>?_)
 ·have hm:s.nodes.getD i zN∈s.nodes:=by simp [List.getD,hi]
  have ho:=h.e _ hm
  simp only [ltI,zai,getD_at hi zN,Option.bind_some]
  rw [if_pos (by omega),addI_eq (by omega) (by omega)]
  generalize s.nodes.getD i zN=y at *
  simp only [neI,cond_ndec,spec_truths _ ho.1,spec_truths _ ho.2,spec_IsTruth,l1In_eq,Option.bind_some,zai]
  unfold nodeOkB
  by_cases h1:(y.vars.length:Int)=vars
  ·rw [if_pos h1,decide_eq_true h1]
   by_cases h2:(y.reach.length:Int)=vars
   ·rw [if_pos h2,decide_eq_true h2]
    cases truthsB y.vars <;> cases truthsB y.reach <;> try exact Tot.ret rfl
    simp only [cond_true,Bool.true_and]
    by_cases h3:0≤y.shared∧y.shared≤2
    ·rw [if_pos h3,decide_eq_true h3]
     by_cases h4:0≤y.many∧y.many≤1
     ·rw [if_pos h4,decide_eq_true h4];exact Tot.ret rfl
     ·rw [if_neg h4,decide_eq_false h4];exact Tot.ret rfl
    ·rw [if_neg h3,decide_eq_false h3];exact Tot.ret rfl
   ·rw [if_neg h2,decide_eq_false h2];exact Tot.ret rfl
  ·rw [if_neg h1,decide_eq_false h1];exact Tot.ret rfl
 ·simp only [ltI,zai]
  rw [if_neg (by omega)]
  exact Tot.ret rfl
 ·rw [all_range s.nodes (nodeOkB vars) zN]
 ·subst hr
  have h3:((s.nodes.length * s.nodes.length:Nat):Int)=(s.nodes.length:Int) * s.nodes.length:=by simp
  unfold isStrB
  cases hall:s.nodes.all (nodeOkB vars) with
  | false=>simp only [Bool.and_false];exact Tot.ret rfl
  | true =>
   simp only [if_true,Sum.elim_inr,l1In_eq,Option.bind_some,zai,leI,eqI,spec_truths _ h.x,Bool.and_true]
   rw [mulI_eq (by omega) (by omega)]
   by_cases h1:1≤vars∧vars≤4
   ·rw [if_pos h1,decide_eq_true h1,Bool.true_and]
    by_cases h2:s.nodes.length≤10
    ·rw [if_pos (by omega),decide_eq_true h2,Bool.true_and]
     by_cases h4:s.next.length=s.nodes.length * s.nodes.length
     ·rw [if_pos (by omega),decide_eq_true h4,Bool.true_and];exact Tot.ret rfl
     ·rw [if_neg (by omega),decide_eq_false h4];exact Tot.ret rfl
    ·rw [if_neg (by omega),decide_eq_false h2];exact Tot.ret rfl
   ·rw [if_neg h1,decide_eq_false h1];exact Tot.ret rfl
theorem containsFunc_node (xs:List TNode) (f:TNode→Option Bool) (p:TNode→Bool) (hf:∀ x∈xs,f x=some (p x)) (hl:small xs.length):slices_ContainsFunc_Node xs f=some (xs.any p):=by
 unfold slices_ContainsFunc_Node slices_IndexFunc_Node
 rw [indexF xs f p hf hl,← containsF_of]
 cases xs.findIdx? p <;> rfl
theorem impl_isStructure (vars:Int) (s:TStructure) (h:shortS s):impl_IsStructure vars s=some (isStrB vars s):=by
 have hn:=h.n
 have hq:=sq_small hn
 unfold small at hn
 have h3:((s.nodes.length * s.nodes.length:Nat):Int)=(s.nodes.length:Int) * s.nodes.length:=by simp
 have hc:=containsFunc_node s.nodes (fun x0=>impl_IsStructure_1 x0 vars) (fun y=>!nodeOkB vars y) (fun y hy=>by
  have ho:=h.e y hy
  unfold impl_IsStructure_1 nodeOkB
  simp only [neI,cond_ndec,impl_truths _ ho.1,impl_truths _ ho.2,impl_IsTruth,within_eq,Option.bind_some,zai]
  by_cases h1:(y.vars.length:Int)=vars
  ·rw [if_pos h1,decide_eq_true h1]
   by_cases h2:(y.reach.length:Int)=vars
   ·rw [if_pos h2,decide_eq_true h2]
    cases truthsB y.vars <;> cases truthsB y.reach <;> try rfl
    simp only [cond_true,Bool.true_and]
    by_cases h3:0≤y.shared∧y.shared≤2
    ·rw [if_pos h3,decide_eq_true h3]
     by_cases h4:y.many=0
     ·rw [if_pos h4];simp [h4]
     ·rw [if_neg h4]
      by_cases h5:y.many=1
      ·simp [h5]
      ·have:¬ (0≤y.many∧y.many≤1):=by omega
       simp [h5,this]
    ·rw [if_neg h3,decide_eq_false h3];rfl
   ·rw [if_neg h2,decide_eq_false h2];rfl
  ·rw [if_neg h1,decide_eq_false h1];rfl) h.n
 unfold impl_IsStructure isStrB
 simp only [within_eq,Option.bind_some,zai,ltI,neI,cond_ndec,impl_truths _ h.x]
 rw [mulI_eq (by omega) (by omega)]
 by_cases h1:1≤vars∧vars≤4
 ·rw [if_pos h1,decide_eq_true h1,Bool.true_and]
  by_cases h2:s.nodes.length≤10
  ·rw [if_neg (by omega),decide_eq_true h2,Bool.true_and]
   by_cases h4:s.next.length=s.nodes.length * s.nodes.length
   ·rw [if_pos (by omega),decide_eq_true h4,Bool.true_and]
    cases truthsB s.next with
    | false=>rfl
    | true =>
     rw [cond_true,hc]
     simp only [Option.bind_some,notB,Bool.true_and,Option.some.injEq]
     rw [List.not_any_eq_all_not]
     congr 1
     funext y
     simp
   ·rw [if_neg (by omega),decide_eq_false h4];rfl
  ·rw [if_pos (by omega),decide_eq_false h2];rfl
 ·rw [if_neg h1,decide_eq_false h1];rfl
theorem copyNode (y:TNode) (h:okN y):spec_l12CopyNode y=some y:=by
 have h1:=h.1
 have h2:=h.2
 unfold small at h1 h2
 unfold spec_l12CopyNode
 simp only [List.length_nil,Nat.zero_add]
 rw [room_small (by omega) (by omega),Option.bind_some,room_small (by omega) (by omega)]
 rfl
theorem ownNode (y:TNode) (h:okN y):impl_Node_own y=some y:=by
 unfold impl_Node_own
 rw [clone_int _ h.1,Option.bind_some,clone_int _ h.2]
 rfl
theorem spec_copy (s:TStructure) (h:shortS s):spec_l12Copy s=some s:=by
 have hn:=h.n
 have hx:=h.x
 unfold small at hn hx
 unfold spec_l12Copy
 simp only [List.length_nil,Nat.zero_add]
 rw [room_small (by omega) (by omega),Option.bind_some]
 refine Tot.eq (Tot.bind (P:=(· = s.nodes)) (Tot.loop (fun i q=>q=((i:Int),s.nodes.take i)) s.nodes.length (by simp) fun i q hI hi=>?_) fun r hr=>by subst hr;exact Tot.ret rfl)
 subst hI
 by_cases hlt:i < s.nodes.length
 ·simp only [ltI,zai,at_nat,List.getElem?_eq_getElem hlt,Option.bind_some,copyNode _ (h.e _ (List.getElem_mem hlt)),List.length_take,List.length_singleton]
  rw [if_pos (by omega),room_small (by omega) (by omega),Option.bind_some,addI_eq (by omega) (by omega)]
  exact Tot.ret ⟨hlt,by rw [take_snoc1 hlt];rfl⟩
 ·simp only [ltI,zai]
  rw [if_neg (by omega)]
  exact Tot.ret (List.take_of_length_le (by omega))
theorem impl_owns (s:TStructure) (h:shortS s):impl_Structure_own s=some s:=by
 have hn:=h.n
 unfold small at hn
 unfold impl_Structure_own
 rw [clone_int _ h.x,Option.bind_some]
 refine Tot.eq (Tot.bind (P:=(· = s.nodes)) (Tot.loop (fun i q=>q=((i:Int),s.nodes.take i)) s.nodes.length (by simp) fun i q hI hi=>?_) fun r hr=>by subst hr;exact Tot.ret rfl)
 subst hI
 by_cases hlt:i < s.nodes.length
 ·simp only [ltI,zai,at_nat,List.getElem?_eq_getElem hlt,Option.bind_some,ownNode _ (h.e _ (List.getElem_mem hlt)),List.length_take,List.length_singleton]
  rw [if_pos (by omega),room_small (by omega) (by omega),Option.bind_some,addI_eq (by omega) (by omega)]
  exact Tot.ret ⟨hlt,by rw [take_snoc1 hlt];rfl⟩
 ·simp only [ltI,zai]
  rw [if_neg (by omega)]
  exact Tot.ret (List.take_of_length_le (by omega))
open Wf (wf)
open Sm (sm lg)
def frm (n:Nat) (t:Int) (i:Nat):Int:=if i=n then t else (i:Int)
open Wf (wf)
open Sm (sm lg)
structure Foc (s:TStructure) (b:Int) (ts:List Int):Prop where
 sh:shortS s
 n10:s.nodes.length≤10
 sq:s.next.length=s.nodes.length * s.nodes.length
 b:0≤b∧b < (s.nodes.length:Int)
 t:∀ t∈ts,0≤t∧t < (s.nodes.length:Int)
 l:ts.length≤10
def varsF (s:TStructure):Int:=match s.nodes with | []=>0 | x :: _=>(x.vars.length:Int)
theorem vars_eq (s:TStructure):spec_l15Vars s=some (varsF s):=by
 unfold spec_l15Vars varsF
 cases h:s.nodes with
 | nil=>rfl
 | cons x xs =>
  simp only [eqI,zai]
  rw [if_neg (by simp only [List.length_cons];omega),show (0:Int)=((0:Nat):Int) from rfl,at_nat]
  rfl
theorem variables_eq:impl_variables=spec_l15Vars:=rfl
end Go.Ev


namespace Go.Ev
open Wf (wf)
open Sm (sm lg)

structure okB (s:TStructure):Prop where
 sh:shortS s
 v:1≤varsF s∧varsF s≤4
 n:s.nodes.length≤10
 z:1≤s.nodes.length
 e:∀ x∈s.nodes,(x.vars.length:Int)=varsF s∧(x.reach.length:Int)=varsF s
theorem okB_of {s:TStructure} (h:shortS s) (hs:isStrB (varsF s) s=true) (h0:¬ s.nodes.length=0):okB s:=by
 unfold isStrB at hs
 simp only [Bool.and_eq_true,decide_eq_true_eq,List.all_eq_true] at hs
 refine ⟨h,hs.1,hs.2.1,by omega,fun x hx=>?_⟩
 have:=hs.2.2.2.2 x hx
 unfold nodeOkB at this
 simp only [Bool.and_eq_true,decide_eq_true_eq] at this
 exact ⟨this.1,this.2.1⟩
theorem node_mem {s:TStructure} {i:Int} (h:0≤i∧i < (s.nodes.length:Int)):s.nodes.getD i.toNat zN∈s.nodes:=by
 have:i.toNat < s.nodes.length:=by omega
 simp [List.getD,this]

def predV (s:TStructure) (k i:Int):Int :=
 if k≤varsF s - 1 then (s.nodes.getD i.toNat zN).vars.getD k.toNat 0 else if k≤2 * varsF s - 1 then (s.nodes.getD i.toNat zN).reach.getD (k - varsF s).toNat 0 else (s.nodes.getD i.toNat zN).shared
theorem l13At_in {l:List Int} {k:Int} (hl:small l.length) (h:0≤k∧k < (l.length:Int)):spec_l13At l k=some (l.getD k.toNat 0):=by
 unfold small at hl
 unfold spec_l13At
 rw [l1In_eq,subI_eq (by omega) (by omega)]
 simp only [Option.bind_some,zai]
 rw [if_pos (by omega),at_in' h 0]
 rfl
theorem spec_pred {s:TStructure} (hs:okB s) {k i:Int} (hi:0≤i∧i < (s.nodes.length:Int)) (hk:0≤k∧k≤2 * varsF s):spec_PredicateAt s k i=some (predV s k i):=by
 have hv:=hs.v
 have hn:=hs.n
 obtain ⟨e1,e2⟩:=hs.e _ (node_mem hi)
 obtain ⟨o1,o2⟩:=hs.sh.e _ (node_mem hi)
 unfold spec_PredicateAt predV
 rw [vars_eq,Option.bind_some,l1In_eq,l1In_eq,l1In_eq,subI_eq (by omega) (by omega),subI_eq (by omega) (by omega),mulI_eq (by omega) (by omega),subI_eq (by omega) (by omega)]
 simp only [Option.bind_some,zai]
 rw [if_pos (by omega)]
 by_cases h1:k≤varsF s - 1
 ·rw [if_pos (by omega),if_pos h1,at_in' hi zN,Option.bind_some,l13At_in o1 (by omega)]
  rfl
 ·rw [if_neg (by omega),if_neg h1]
  by_cases h2:k≤2 * varsF s - 1
  ·rw [if_pos (by omega),if_pos h2,at_in' hi zN,Option.bind_some,subI_eq (by omega) (by omega),l13At_in o2 (by omega)]
   rfl
  ·rw [if_neg (by omega),if_neg h2]
   simp only [eqI,zai]
   rw [if_pos (by omega),at_in' hi zN]
   rfl
theorem impl_pred {s:TStructure} (hs:okB s) {k i:Int} (hi:0≤i∧i < (s.nodes.length:Int)) (hk:0≤k∧k≤2 * varsF s):impl_PredicateAt s k i=some (predV s k i):=by
 have hv:=hs.v
 have hn:=hs.n
 obtain ⟨e1,e2⟩:=hs.e _ (node_mem hi)
 unfold impl_PredicateAt predV impl_Structure_isNode
 rw [variables_eq,vars_eq,Option.bind_some,within_eq,subI_eq (by omega) (by omega),mulI_eq (by omega) (by omega)]
 simp only [Option.bind_some,zai,eqI,at_in' hi zN,within_eq]
 rw [if_pos (by omega)]
 by_cases h3:k=2 * varsF s
 ·rw [if_pos h3,if_neg (by omega),if_neg (by omega)]
 ·rw [if_neg h3,subI_eq (by omega) (by omega),subI_eq (by omega) (by omega),subI_eq (by omega) (by omega)]
  by_cases h1:k≤varsF s - 1
  ·rw [if_pos (by omega),if_pos h1,if_pos (by omega),at_in' (by omega) 0]
   rfl
  ·rw [if_neg (by omega),if_neg h1,if_pos (by omega),subI_eq (by omega) (by omega),subI_eq (by omega) (by omega),if_pos (by omega),at_in' (by omega) 0,if_pos (by omega)]
   rfl

def txtF (a:Int):ByteArray:=if 0≤a∧a≤2 then (⟨#[48,63,49]⟩:ByteArray).extract a.toNat (a+1).toNat else ⟨#[]⟩
theorem spec_txt (a:Int):spec_TruthText a=some (txtF a):=by
 unfold spec_TruthText txtF spec_IsTruth
 rw [l1In_eq]
 simp only [Option.bind_some,zai]
 by_cases h:0≤a∧a≤2
 ·rw [if_pos h,if_pos h,addI_eq (by omega) (by omega)]
  unfold sub?
  rw [if_pos ⟨h.1,by omega,by show a+1≤3;omega⟩]
  rfl
 ·rw [if_neg h,if_neg h]
theorem impl_txt (a:Int):impl_TruthText a=some (txtF a):=by
 rw [← spec_txt]
 unfold impl_TruthText spec_TruthText
 rw [isTruth_eq]
theorem txt_size (a:Int):(txtF a).size≤1:=by
 unfold txtF
 split
 ·rw [ByteArray.size_extract]
  have:(⟨#[48,63,49]⟩:ByteArray).size=3:=rfl
  omega
 ·exact Nat.zero_le _
def nameK (s:TStructure) (i:Int):Nat→ByteArray
 | 0=>⟨#[]⟩
 | k+1=>nameK s i k ++ txtF (predV s k i)
theorem nameK_size (s:TStructure) (i:Int):∀ k,(nameK s i k).size≤k
 | 0=>Nat.le_refl _
 | k+1=>by
  rw [nameK,ByteArray.size_append]
  have:=nameK_size s i k
  have:=txt_size (predV s k i)
  omega
def nameF (s:TStructure) (i:Int):ByteArray:=nameK s i (2 * varsF s+1).toNat
theorem spec_name {s:TStructure} (hs:okB s) {i:Int} (hi:0≤i∧i < (s.nodes.length:Int)):spec_NodeName s i=some (nameF s i):=by
 have hv:=hs.v
 have hn:=hs.n
 have hz:=hs.z
 have hcp:spec_CountPredicates s=some (2 * varsF s+1):=by
  unfold spec_CountPredicates
  simp only [eqI,zai]
  rw [if_neg (by omega),vars_eq,Option.bind_some,mulI_eq (by omega) (by omega),addI_eq (by omega) (by omega)]
 unfold spec_NodeName
 rw [l1In_eq,subI_eq (by omega) (by omega)]
 simp only [Option.bind_some,zai,hcp]
 rw [if_pos (by omega)]
 refine Tot.eq (Tot.bind (P:=(· = nameF s i)) (Tot.loop (fun k q=>q=(nameK s i k,(k:Int))) (2 * varsF s+1).toNat rfl fun k q hI hk=>?_) fun r hr=>by subst hr;exact Tot.ret rfl)
 subst hI
 by_cases hlt:(k:Int) < 2 * varsF s+1
 ·simp only [ltI,zai]
  rw [if_pos hlt,spec_pred hs hi (by omega),Option.bind_some,spec_txt,Option.bind_some]
  have h1:=nameK_size s i k
  have h2:=txt_size (predV s k i)
  unfold catS
  rw [if_pos (by omega),Option.bind_some,addI_eq (by omega) (by omega)]
  exact Tot.ret ⟨by omega,rfl⟩
 ·simp only [ltI,zai]
  rw [if_neg hlt]
  have:k=(2 * varsF s+1).toNat:=by omega
  subst this
  exact Tot.ret rfl
theorem impl_name {s:TStructure} (hs:okB s) {i:Int} (hi:0≤i∧i < (s.nodes.length:Int)):impl_NodeName s i=some (nameF s i):=by
 have hv:=hs.v
 have hn:=hs.n
 have hz:=hs.z
 have hcp:impl_CountPredicates s=some (2 * varsF s+1):=by
  unfold impl_CountPredicates
  simp only [eqI,zai]
  rw [if_neg (by omega),variables_eq,vars_eq,Option.bind_some,mulI_eq (by omega) (by omega),addI_eq (by omega) (by omega)]
 unfold impl_NodeName impl_Structure_isNode
 rw [within_eq,subI_eq (by omega) (by omega)]
 simp only [Option.bind_some,zai,hcp]
 rw [if_pos (by omega)]
 refine Tot.eq (Tot.bind (P:=(· = nameF s i)) (Tot.loop (fun k q=>q=(nameK s i k,(k:Int))) (2 * varsF s+1).toNat rfl fun k q hI hk=>?_) fun r hr=>by subst hr;exact Tot.ret rfl)
 subst hI
 by_cases hlt:(k:Int) < 2 * varsF s+1
 ·simp only [ltI,zai]
  rw [if_pos hlt,impl_pred hs hi (by omega),Option.bind_some,impl_txt,Option.bind_some]
  have h1:=nameK_size s i k
  have h2:=txt_size (predV s k i)
  unfold catS
  rw [if_pos (by omega),Option.bind_some,addI_eq (by omega) (by omega)]
  exact Tot.ret ⟨by omega,rfl⟩
 ·simp only [ltI,zai]
  rw [if_neg hlt]
  have:k=(2 * varsF s+1).toNat:=by omega
  subst this
  exact Tot.ret rfl
theorem name_size {s:TStructure} (hs:okB s) (i:Int):(nameF s i).size≤9:=by
 have:=nameK_size s i (2 * varsF s+1).toNat
 have:=hs.v
 unfold nameF
 omega
def namesL (s:TStructure) (k:Nat):List ByteArray:=(List.range k).map fun i:Nat=>nameF s (i:Int)
theorem namesT_L {s:TStructure} {nm:TStructure→Int→Option ByteArray} (h:∀ i:Nat,i < s.nodes.length→nm s (i:Int)=some (nameF s (i:Int))):∀ k,k≤s.nodes.length→namesT (nm s) k=some (namesL s k)
 | 0,_=>rfl
 | k+1,hk=>by
  rw [namesT,namesT_L h k (by omega),Option.bind_some,h k (by omega),Option.bind_some]
  unfold namesL
  rw [List.range_succ,List.map_append]
  rfl
theorem names_few {s:TStructure} (hs:okB s):few (namesL s s.nodes.length)=true:=by
 unfold few
 rw [Bool.and_eq_true,List.all_eq_true]
 have hn:=hs.n
 refine ⟨by simp [namesL];omega,fun x hx=>?_⟩
 unfold namesL at hx
 obtain ⟨i,_,rfl⟩:=List.mem_map.1 hx
 have:=name_size hs (i:Int)
 simp
 omega
end Go.Ev

