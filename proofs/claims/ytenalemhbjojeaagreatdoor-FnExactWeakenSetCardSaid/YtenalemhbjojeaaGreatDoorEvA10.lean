import Derived.Test.YtenalemhbjojeaaGreatDoorEvA6
import Derived.Test.YtenalemhbjojeaaGreatDoorEvA7
import Derived.Test.YtenalemhbjojeaaGreatDoorEvA8
import Derived.Test.YtenalemhbjojeaaGreatDoorEvA9
set_option linter.unusedSimpArgs false
set_option linter.unusedVariables false
set_option linter.unnecessarySimpa false
noncomputable section
namespace Go.Ev
def zhq (s:(List (List Int))):Option (List Int):=lib_Concat 8 s

def zaw (l:List TStructure) (i:Int) (v:List TStructure):Option (List TStructure):=insF l i v

def strings_Join (l:List ByteArray) (s:ByteArray):Option ByteArray:=joinF l s

def zgv (n:Int):Option ByteArray:=digF n

def zcc (s:(List Int)):Option (List Int):=zlo 8 s

def zey (l:List ByteArray) (s:ByteArray):Option ByteArray:=joinF l s

def zbk (n:Int):Option ByteArray:=digF n

def laws_szIntS (a_:(List Int)) (left:Int):Option (Int) :=
 cond (ltI (subI left (a_.length:Int)) 0)
 (some (-1))
 (some (subI left (a_.length:Int)))

def laws_szNode (a_:TNode) (left:Int):Option (Int) :=
 (laws_szIntS a_.vars left).bind fun y_1 =>
 cond (ltI y_1 0)
 (some (-1))
 ((laws_szIntS a_.reach y_1).bind fun y_5 =>
 cond (ltI y_5 0)
 (some (-1))
 (some y_5))

def laws_szNodeS (a_:(List TNode)) (left:Int):Option (Int) :=
 cond (ltI (subI left (a_.length:Int)) 0)
 (some (-1))
 ((iter (ρ:=(Int) ⊕ (Int)) (fun s_2:Int × Int =>
 cond (ltI s_2.2 (a_.length:Int))
 ((at? a_ s_2.2).bind fun e_10 =>
 (laws_szNode e_10 s_2.1).bind fun y_15 =>
 cond (ltI y_15 0)
 (some (.inr (.inl (-1))))
 (some (.inl (y_15,addI s_2.2 1))))
 (some (.inr (.inr s_2.1)))) (subI left (a_.length:Int),0)).bind fun r_19 =>
 Sum.elim (fun r_19 =>
 some r_19)
 (fun r_19 =>
 some r_19) r_19)

def laws_szStructure (a_:TStructure) (left:Int):Option (Int) :=
 (laws_szNodeS a_.nodes left).bind fun y_1 =>
 cond (ltI y_1 0)
 (some (-1))
 ((laws_szIntS a_.next y_1).bind fun y_5 =>
 cond (ltI y_5 0)
 (some (-1))
 (some y_5))

def laws_szStructureS (a_:(List TStructure)) (left:Int):Option (Int) :=
 cond (ltI (subI left (a_.length:Int)) 0)
 (some (-1))
 ((iter (ρ:=(Int) ⊕ (Int)) (fun s_2:Int × Int =>
 cond (ltI s_2.2 (a_.length:Int))
 ((at? a_ s_2.2).bind fun e_10 =>
 (laws_szStructure e_10 s_2.1).bind fun y_15 =>
 cond (ltI y_15 0)
 (some (.inr (.inl (-1))))
 (some (.inl (y_15,addI s_2.2 1))))
 (some (.inr (.inr s_2.1)))) (subI left (a_.length:Int),0)).bind fun r_19 =>
 Sum.elim (fun r_19 =>
 some r_19)
 (fun r_19 =>
 some r_19) r_19)

def laws_toIntS (a_:(List Int)):Option ((List Int)) :=
 (roomI (a_.length:Int) 8).bind fun _ =>
 (iter (ρ:=(List Int)) (fun s_5:Int × (List Int) =>
 cond (ltI s_5.1 (a_.length:Int))
 ((at? a_ s_5.1).bind fun e_13 =>
 (at? s_5.2 s_5.1).bind fun e_18 =>
 some (.inl (addI s_5.1 1,s_5.2.set s_5.1.toNat e_13)))
 (some (.inr s_5.2))) (0,List.replicate (a_.length:Int).toNat (0:Int))).bind fun r_24 =>
 some r_24

def laws_toNode (a_:TNode):Option (TNode) :=
 (laws_toIntS a_.vars).bind fun y_1 =>
 (laws_toIntS a_.reach).bind fun y_4 =>
 some (⟨y_1,y_4,a_.shared,a_.many⟩:TNode)

def laws_toNodeS (a_:(List TNode)):Option ((List TNode)) :=
 (roomI (a_.length:Int) 64).bind fun _ =>
 (iter (ρ:=(List TNode)) (fun s_5:Int × (List TNode) =>
 cond (ltI s_5.1 (a_.length:Int))
 ((at? a_ s_5.1).bind fun e_13 =>
 (laws_toNode e_13).bind fun y_18 =>
 (at? s_5.2 s_5.1).bind fun e_21 =>
 some (.inl (addI s_5.1 1,s_5.2.set s_5.1.toNat y_18)))
 (some (.inr s_5.2))) (0,List.replicate (a_.length:Int).toNat ((⟨[],[],0,0⟩:TNode):TNode))).bind fun r_27 =>
 some r_27

def laws_toStructure (a_:TStructure):Option (TStructure) :=
 (laws_toNodeS a_.nodes).bind fun y_1 =>
 (laws_toIntS a_.next).bind fun y_4 =>
 some (⟨y_1,y_4⟩:TStructure)

def laws_toStructureS (a_:(List TStructure)):Option ((List TStructure)) :=
 (roomI (a_.length:Int) 48).bind fun _ =>
 (iter (ρ:=(List TStructure)) (fun s_5:Int × (List TStructure) =>
 cond (ltI s_5.1 (a_.length:Int))
 ((at? a_ s_5.1).bind fun e_13 =>
 (laws_toStructure e_13).bind fun y_18 =>
 (at? s_5.2 s_5.1).bind fun e_21 =>
 some (.inl (addI s_5.1 1,s_5.2.set s_5.1.toNat y_18)))
 (some (.inr s_5.2))) (0,List.replicate (a_.length:Int).toNat ((⟨[],[]⟩:TStructure):TStructure))).bind fun r_27 =>
 some r_27

def zcp (s:TStructure):Option (Int) :=
 cond (eqI (s.nodes.length:Int) 0)
 (some 0)
 ((at? s.nodes 0).bind fun e_2 =>
 some (e_2.vars.length:Int))

def zbb (x_:Int) (lo:Int) (hi:Int):Option (Bool) :=
 cond (leI lo x_)
 (some (leI x_ hi))
 (some false)

def zbh (a_:Int):Option (Bool) :=
 (zbb a_ 0 2).bind fun y_1 =>
 some y_1

def zcl (list:(List Int)):Option (Bool) :=
 (iter (ρ:=(Unit) ⊕ (Unit)) (fun s_1:Int =>
 cond (ltI s_1 (list.length:Int))
 ((at? list s_1).bind fun e_9 =>
 (zbh e_9).bind fun y_14 =>
 cond y_14
 (some (.inl (addI s_1 1)))
 (some (.inr (.inl ()))))
 (some (.inr (.inr ())))) 0).bind fun r_18 =>
 Sum.elim (fun _r_18 =>
 some false)
 (fun _r_18 =>
 some true) r_18

def zca (vars:Int) (s:TStructure):Option (Bool) :=
 (iter (ρ:=(Unit) ⊕ (Unit)) (fun s_1:Int =>
 cond (ltI s_1 (s.nodes.length:Int))
 ((at? s.nodes s_1).bind fun e_9 =>
 cond (neI (e_9.vars.length:Int) vars)
 (some (.inr (.inl ())))
 (cond (neI (e_9.reach.length:Int) vars)
 (some (.inr (.inl ())))
 ((zcl e_9.vars).bind fun y_17 =>
 cond y_17
 ((zcl e_9.reach).bind fun y_21 =>
 cond y_21
 ((zbh e_9.shared).bind fun y_25 =>
 cond y_25
 ((zbb e_9.many 0 1).bind fun y_29 =>
 cond y_29
 (some (.inl (addI s_1 1)))
 (some (.inr (.inl ()))))
 (some (.inr (.inl ()))))
 (some (.inr (.inl ()))))
 (some (.inr (.inl ()))))))
 (some (.inr (.inr ())))) 0).bind fun r_33 =>
 Sum.elim (fun _r_33 =>
 some false)
 (fun _r_33 =>
 (zbb vars 1 4).bind fun y_41 =>
 cond y_41
 (cond (leI (s.nodes.length:Int) 10)
 (cond (eqI (s.next.length:Int) (mulI (s.nodes.length:Int) (s.nodes.length:Int)))
 ((zcl s.next).bind fun y_47 =>
 some y_47)
 (some false))
 (some false))
 (some false)) r_33

def zbz (x_:TNode):Option (TNode) :=
 (room (([]:List Int).length+x_.vars.length) 8).bind fun _ =>
 (room (([]:List Int).length+x_.reach.length) 8).bind fun _ =>
 some x_

def zbg (s:TStructure):Option (TStructure) :=
 (room (([]:List Int).length+s.next.length) 8).bind fun _ =>
 (iter (ρ:=(List TNode)) (fun s_3:Int × (List TNode) =>
 cond (ltI s_3.1 (s.nodes.length:Int))
 ((at? s.nodes s_3.1).bind fun e_11 =>
 (zbz e_11).bind fun y_16 =>
 (room (s_3.2.length + [y_16].length) 64).bind fun _ =>
 some (.inl (addI s_3.1 1,s_3.2 ++ [y_16])))
 (some (.inr s_3.2))) (0,[])).bind fun r_21 =>
 some (⟨r_21,s.next⟩:TStructure)

def zbe (s:TStructure):Option (Int) :=
 cond (eqI (s.nodes.length:Int) 0)
 (some 0)
 ((zcp s).bind fun y_2 =>
 some (addI (mulI 2 y_2) 1))

def zfj (list:(List Int)) (k_:Int):Option (Int) :=
 (zbb k_ 0 (subI (list.length:Int) 1)).bind fun y_1 =>
 cond y_1
 ((at? list k_).bind fun e_5 =>
 some e_5)
 (some 1)

def zcs (s:TStructure) (k_:Int) (i:Int):Option (Int) :=
 (zcp s).bind fun y_1 =>
 (zbb i 0 (subI (s.nodes.length:Int) 1)).bind fun y_4 =>
 cond y_4
 ((zbb k_ 0 (subI y_1 1)).bind fun y_8 =>
 cond y_8
 ((at? s.nodes i).bind fun e_12 =>
 (zfj e_12.vars k_).bind fun y_17 =>
 some y_17)
 ((zbb k_ y_1 (subI (mulI 2 y_1) 1)).bind fun y_20 =>
 cond y_20
 ((at? s.nodes i).bind fun e_24 =>
 (zfj e_24.reach (subI k_ y_1)).bind fun y_29 =>
 some y_29)
 (cond (eqI k_ (mulI 2 y_1))
 ((at? s.nodes i).bind fun e_33 =>
 some e_33.shared)
 (some 1))))
 (some 1)

def zbu (a_:Int):Option (ByteArray) :=
 (zbh a_).bind fun y_1 =>
 cond y_1
 ((sub? (⟨#[48,63,49]⟩:ByteArray) a_ (addI a_ 1)).bind fun z_5 =>
 some z_5)
 (some (⟨#[]⟩:ByteArray))

def zdw (s:TStructure) (i:Int):Option (ByteArray) :=
 (zbb i 0 (subI (s.nodes.length:Int) 1)).bind fun y_1 =>
 cond y_1
 ((zbe s).bind fun y_5 =>
 (iter (ρ:=ByteArray) (fun s_8:ByteArray × Int =>
 cond (ltI s_8.2 y_5)
 ((zcs s s_8.2 i).bind fun y_16 =>
 (zbu y_16).bind fun y_19 =>
 (catS s_8.1 y_19).bind fun z_22 =>
 some (.inl (z_22,addI s_8.2 1)))
 (some (.inr s_8.1))) ((⟨#[]⟩:ByteArray),0)).bind fun r_25 =>
 some r_25)
 (some (⟨#[]⟩:ByteArray))

def zex (s:TStructure):Option (List (List Int)) :=
 groupsT zdw s

def zdt (s:TStructure) (group:(List Int)):Option (TNode) :=
 (at? group 0).bind fun e_1 =>
 (at? s.nodes e_1).bind fun e_6 =>
 (zbz e_6).bind fun y_11 =>
 (iter (ρ:=Int) (fun s_14:Int × Int =>
 cond (ltI s_14.1 (group.length:Int))
 (cond (ltI 1 (group.length:Int))
 (some (.inl (addI s_14.1 1,1)))
 ((at? group s_14.1).bind fun e_23 =>
 (at? s.nodes e_23).bind fun e_28 =>
 cond (neI e_28.many 0)
 (some (.inl (addI s_14.1 1,1)))
 (some (.inl (addI s_14.1 1,s_14.2)))))
 (some (.inr s_14.2))) (0,y_11.many)).bind fun r_34 =>
 some (⟨y_11.vars,y_11.reach,y_11.shared,r_34⟩:TNode)

def zcg (s:TStructure) (i:Int) (j:Int):Option (Int) :=
 (zbb i 0 (subI (s.nodes.length:Int) 1)).bind fun y_1 =>
 cond y_1
 ((zbb j 0 (subI (s.nodes.length:Int) 1)).bind fun y_5 =>
 cond y_5
 (cond (neI (s.next.length:Int) (mulI (s.nodes.length:Int) (s.nodes.length:Int)))
 (some 1)
 ((at? s.next (addI (mulI i (s.nodes.length:Int)) j)).bind fun e_10 =>
 some e_10))
 (some 1))
 (some 1)

def zeg (a_:Int) (b_:Int):Option (Int) :=
 cond (neI a_ b_)
 (some 1)
 ((zbh a_).bind fun y_2 =>
 cond y_2
 (some a_)
 (some 1))

def zdu (s:TStructure) (a_:(List Int)) (b_:(List Int)):Option (Int) :=
 (at? a_ 0).bind fun e_1 =>
 (at? b_ 0).bind fun e_6 =>
 (zcg s e_1 e_6).bind fun y_11 =>
 (iter (ρ:=Int) (fun s_14:Int × Int =>
 cond (ltI s_14.2 (a_.length:Int))
 ((iter (ρ:=Int) (fun s_22:Int × Int =>
 cond (ltI s_22.2 (b_.length:Int))
 ((at? a_ s_14.2).bind fun e_30 =>
 (at? b_ s_22.2).bind fun e_35 =>
 (zcg s e_30 e_35).bind fun y_40 =>
 (zeg s_22.1 y_40).bind fun y_43 =>
 some (.inl (y_43,addI s_22.2 1)))
 (some (.inr s_22.1))) (s_14.1,0)).bind fun r_46 =>
 some (.inl (r_46,addI s_14.2 1)))
 (some (.inr s_14.1))) (y_11,0)).bind fun r_51 =>
 some r_51

def zgb (s:TStructure):Option (TStructure) :=
 cond (eqI (s.nodes.length:Int) 0)
 (some (⟨[],[]⟩:TStructure))
 ((zcp s).bind fun y_2 =>
 (zca y_2 s).bind fun y_5 =>
 cond y_5
 ((zex s).bind fun y_9 =>
 (iter (ρ:=(List TNode) × (List Int)) (fun s_12:Int × (List TNode) × (List Int) =>
 cond (ltI s_12.1 (y_9.length:Int))
 ((at? y_9 s_12.1).bind fun e_20 =>
 (zdt s e_20).bind fun y_25 =>
 (room (s_12.2.1.length + [y_25].length) 64).bind fun _ =>
 (iter (ρ:=(List Int)) (fun s_30:Int × (List Int) =>
 cond (ltI s_30.1 (y_9.length:Int))
 ((at? y_9 s_12.1).bind fun _ =>
 (at? y_9 s_30.1).bind fun e_43 =>
 (zdu s e_20 e_43).bind fun y_48 =>
 (room (s_30.2.length + [y_48].length) 8).bind fun _ =>
 some (.inl (addI s_30.1 1,s_30.2 ++ [y_48])))
 (some (.inr s_30.2))) (0,s_12.2.2)).bind fun r_53 =>
 some (.inl (addI s_12.1 1,s_12.2.1 ++ [y_25],r_53)))
 (some (.inr (s_12.2.1,s_12.2.2)))) (0,[],[])).bind fun r_58 =>
 some (⟨r_58.1,r_58.2⟩:TStructure))
 ((zbg s).bind fun y_63 =>
 some y_63))

def zdp (s:ByteArray):Option (Bool) :=
 (iter (ρ:=(Unit) ⊕ (Unit)) (fun s_1:Int =>
 cond (ltI s_1 (s.size:Int))
 ((chr? s s_1).bind fun e_9 =>
 cond (ltI e_9 97)
 (some (.inr (.inl ())))
 ((chr? s s_1).bind fun _ =>
 cond (ltI 122 e_9)
 (some (.inr (.inl ())))
 (some (.inl (addI s_1 1)))))
 (some (.inr (.inr ())))) 0).bind fun r_15 =>
 Sum.elim (fun _r_15 =>
 some false)
 (fun _r_15 =>
 (zbb (s.size:Int) 1 2).bind fun y_23 =>
 some y_23) r_15

def zcb (list:(List ByteArray)) (s:ByteArray):Option (Int) :=
 (iter (ρ:=(Int) ⊕ (Unit)) (fun s_1:Int =>
 cond (ltI s_1 (list.length:Int))
 ((at? list s_1).bind fun e_9 =>
 cond (eqS e_9 s)
 (some (.inr (.inl s_1)))
 (some (.inl (addI s_1 1))))
 (some (.inr (.inr ())))) 0).bind fun r_15 =>
 Sum.elim (fun r_15 =>
 some r_15)
 (fun _r_15 =>
 some (-1)) r_15

def zbo (list:(List ByteArray)):Option (Bool) :=
 (iter (ρ:=(Unit) ⊕ (Unit)) (fun s_1:Int =>
 cond (ltI s_1 (list.length:Int))
 ((at? list s_1).bind fun e_9 =>
 (zdp e_9).bind fun y_14 =>
 cond y_14
 ((at? list s_1).bind fun _ =>
 (zcb list e_9).bind fun y_23 =>
 cond (neI y_23 s_1)
 (some (.inr (.inl ())))
 (some (.inl (addI s_1 1))))
 (some (.inr (.inl ()))))
 (some (.inr (.inr ())))) 0).bind fun r_27 =>
 Sum.elim (fun _r_27 =>
 some false)
 (fun _r_27 =>
 (zbb (list.length:Int) 1 4).bind fun y_35 =>
 some y_35) r_27

def zbt (list:(List Int)):Option (ByteArray) :=
 (iter (ρ:=ByteArray) (fun s_1:ByteArray × Int =>
 cond (ltI s_1.2 (list.length:Int))
 ((at? list s_1.2).bind fun e_9 =>
 (zbu e_9).bind fun y_14 =>
 (catS s_1.1 y_14).bind fun z_17 =>
 some (.inl (z_17,addI s_1.2 1)))
 (some (.inr s_1.1))) ((⟨#[]⟩:ByteArray),0)).bind fun r_20 =>
 some r_20

def zef (s:TStructure) (i:Int):Option (ByteArray) :=
 (at? s.nodes i).bind fun e_1 =>
 (zbt e_1.vars).bind fun y_6 =>
 (zbt e_1.reach).bind fun y_9 =>
 (catS y_6 y_9).bind fun z_12 =>
 (zbu e_1.shared).bind fun y_15 =>
 (catS z_12 y_15).bind fun z_18 =>
 cond (eqI e_1.many 1)
 ((catS z_18 (⟨#[42]⟩:ByteArray)).bind fun z_22 =>
 (iter (ρ:=(List ByteArray)) (fun s_25:(List ByteArray) × Int =>
 cond (ltI s_25.2 (s.nodes.length:Int))
 ((zcg s i s_25.2).bind fun y_33 =>
 cond (eqI y_33 2)
 ((zbk s_25.2).bind fun y_37 =>
 (room (s_25.1.length + [y_37].length) 16).bind fun _ =>
 some (.inl (s_25.1 ++ [y_37],addI s_25.2 1)))
 (cond (eqI y_33 1)
 ((zbk s_25.2).bind fun y_43 =>
 (catS y_43 (⟨#[63]⟩:ByteArray)).bind fun z_46 =>
 (room (s_25.1.length + [z_46].length) 16).bind fun _ =>
 some (.inl (s_25.1 ++ [z_46],addI s_25.2 1)))
 (some (.inl (s_25.1,addI s_25.2 1)))))
 (some (.inr s_25.1))) ([],0)).bind fun r_51 =>
 cond (ltI 0 (r_51.length:Int))
 ((catS z_22 (⟨#[62]⟩:ByteArray)).bind fun z_57 =>
 (zey r_51 (⟨#[44]⟩:ByteArray)).bind fun y_60 =>
 (catS z_57 y_60).bind fun z_63 =>
 some z_63)
 (some z_22))
 ((iter (ρ:=(List ByteArray)) (fun s_66:(List ByteArray) × Int =>
 cond (ltI s_66.2 (s.nodes.length:Int))
 ((zcg s i s_66.2).bind fun y_74 =>
 cond (eqI y_74 2)
 ((zbk s_66.2).bind fun y_78 =>
 (room (s_66.1.length + [y_78].length) 16).bind fun _ =>
 some (.inl (s_66.1 ++ [y_78],addI s_66.2 1)))
 (cond (eqI y_74 1)
 ((zbk s_66.2).bind fun y_84 =>
 (catS y_84 (⟨#[63]⟩:ByteArray)).bind fun z_87 =>
 (room (s_66.1.length + [z_87].length) 16).bind fun _ =>
 some (.inl (s_66.1 ++ [z_87],addI s_66.2 1)))
 (some (.inl (s_66.1,addI s_66.2 1)))))
 (some (.inr s_66.1))) ([],0)).bind fun r_92 =>
 cond (ltI 0 (r_92.length:Int))
 ((catS z_18 (⟨#[62]⟩:ByteArray)).bind fun z_98 =>
 (zey r_92 (⟨#[44]⟩:ByteArray)).bind fun y_101 =>
 (catS z_98 y_101).bind fun z_104 =>
 some z_104)
 (some z_18))

def zav (vars:(List ByteArray)) (s:TStructure):Option (ByteArray) :=
 (zbo vars).bind fun y_1 =>
 cond y_1
 ((zca (vars.length:Int) s).bind fun y_5 =>
 cond y_5
 ((iter (ρ:=(List ByteArray)) (fun s_9:(List ByteArray) × Int =>
 cond (ltI s_9.2 (s.nodes.length:Int))
 ((zef s s_9.2).bind fun y_17 =>
 (room (s_9.1.length + [y_17].length) 16).bind fun _ =>
 some (.inl (s_9.1 ++ [y_17],addI s_9.2 1)))
 (some (.inr s_9.1))) ([],0)).bind fun r_22 =>
 cond (eqI (r_22.length:Int) 0)
 (some (⟨#[45]⟩:ByteArray))
 ((zey r_22 (⟨#[32]⟩:ByteArray)).bind fun y_28 =>
 some y_28))
 (some (⟨#[]⟩:ByteArray)))
 (some (⟨#[]⟩:ByteArray))

def zdo (s:TStructure):Option (ByteArray) :=
 cond (eqI (s.nodes.length:Int) 0)
 (some (⟨#[45]⟩:ByteArray))
 ((zcp s).bind fun y_2 =>
 (zbb y_2 1 4).bind fun y_5 =>
 cond y_5
 ((slc [(⟨#[97]⟩:ByteArray),(⟨#[98]⟩:ByteArray),(⟨#[99]⟩:ByteArray),(⟨#[100]⟩:ByteArray)] 0 y_2).bind fun z_9 =>
 (zav z_9 s).bind fun y_16 =>
 some y_16)
 (some (⟨#[]⟩:ByteArray)))

def zcm (set:(List TStructure)) (s:TStructure):Option ((List TStructure)) :=
 (zgb s).bind fun y_1 =>
 (zdo y_1).bind fun y_4 =>
 (iter (ρ:=Bool) (fun s_7:Bool × Int =>
 cond (ltI s_7.2 (set.length:Int))
 (cond s_7.1
 (some (.inl (true,addI s_7.2 1)))
 ((at? set s_7.2).bind fun e_16 =>
 (zdo e_16).bind fun y_21 =>
 some (.inl (eqS y_21 y_4,addI s_7.2 1))))
 (some (.inr s_7.1))) (false,0)).bind fun r_24 =>
 (iter (ρ:=(List TStructure) × Bool) (fun s_29:(List TStructure) × Int × Bool =>
 cond (ltI s_29.2.1 (set.length:Int))
 (cond s_29.2.2
 ((at? set s_29.2.1).bind fun e_38 =>
 (zbg e_38).bind fun y_43 =>
 (room (s_29.1.length + [y_43].length) 48).bind fun _ =>
 some (.inl (s_29.1 ++ [y_43],addI s_29.2.1 1,s_29.2.2)))
 ((at? set s_29.2.1).bind fun e_48 =>
 (zdo e_48).bind fun y_53 =>
 cond (gtT y_53 y_4)
 ((zbg y_1).bind fun y_57 =>
 (room (s_29.1.length + [y_57].length) 48).bind fun _ =>
 (at? set s_29.2.1).bind fun _ =>
 (zbg e_48).bind fun y_67 =>
 (room ((s_29.1 ++ [y_57]).length + [y_67].length) 48).bind fun _ =>
 some (.inl ((s_29.1 ++ [y_57]) ++ [y_67],addI s_29.2.1 1,true)))
 ((at? set s_29.2.1).bind fun _ =>
 (zbg e_48).bind fun y_77 =>
 (room (s_29.1.length + [y_77].length) 48).bind fun _ =>
 some (.inl (s_29.1 ++ [y_77],addI s_29.2.1 1,s_29.2.2)))))
 (some (.inr (s_29.1,s_29.2.2)))) ([],0,r_24)).bind fun r_82 =>
 cond r_82.2
 (some r_82.1)
 ((zbg y_1).bind fun y_88 =>
 (room (r_82.1.length + [y_88].length) 48).bind fun _ =>
 some (r_82.1 ++ [y_88]))

def zcw (x_:TNode):Option (TNode) :=
 (zcc x_.vars).bind fun y_1 =>
 (zcc x_.reach).bind fun y_4 =>
 some (⟨y_1,y_4,x_.shared,x_.many⟩:TNode)

def zba (s:TStructure):Option (TStructure) :=
 (zcc s.next).bind fun y_1 =>
 (iter (ρ:=(List TNode)) (fun s_4:Int × (List TNode) =>
 cond (ltI s_4.1 (s.nodes.length:Int))
 ((at? s.nodes s_4.1).bind fun e_12 =>
 (zcw e_12).bind fun y_18 =>
 (room (s_4.2.length + [y_18].length) 64).bind fun _ =>
 some (.inl (addI s_4.1 1,s_4.2 ++ [y_18])))
 (some (.inr s_4.2))) (0,[])).bind fun r_23 =>
 some (⟨r_23,y_1⟩:TStructure)

def zei (set:(List TStructure)):Option ((List TStructure)) :=
 (iter (ρ:=(List TStructure)) (fun s_1:(List TStructure) × Int =>
 cond (ltI s_1.2 (set.length:Int))
 ((at? set s_1.2).bind fun e_9 =>
 (zba e_9).bind fun y_15 =>
 (room (s_1.1.length + [y_15].length) 48).bind fun _ =>
 some (.inl (s_1.1 ++ [y_15],addI s_1.2 1)))
 (some (.inr s_1.1))) ([],0)).bind fun r_20 =>
 some r_20

def zcn (s:TStructure):Option (Int) :=
 cond (eqI (s.nodes.length:Int) 0)
 (some 0)
 ((at? s.nodes 0).bind fun e_2 =>
 some (e_2.vars.length:Int))

def zay (n_:Int) (low:Int) (high:Int):Option (Bool) :=
 cond (leI low n_)
 (some (leI n_ high))
 (some false)

def zcd (a_:Int):Option (Bool) :=
 (zay a_ 0 2).bind fun y_1 =>
 some y_1

def zdg (a_:Int):Option (Bool) :=
 (zcd a_).bind fun y_1 =>
 some (notB y_1)

def zdq (s:(List Int)) (f_:(Int→Option (Bool))):Option (Int) :=
 (iter (ρ:=(Int) ⊕ (Unit)) (fun s_1:Int =>
 cond (ltI s_1 (s.length:Int))
 ((at? s s_1).bind fun e_10 =>
 (f_ e_10).bind fun y_15 =>
 cond y_15
 (some (.inr (.inl s_1)))
 (some (.inl (addI s_1 1))))
 (some (.inr (.inr ())))) 0).bind fun r_18 =>
 Sum.elim (fun r_18 =>
 some r_18)
 (fun _r_18 =>
 some (-1)) r_18

def zbd (s:(List Int)) (f_:(Int→Option (Bool))):Option (Bool) :=
 (zdq s f_).bind fun y_1 =>
 some (leI 0 y_1)

def zco (list:(List Int)):Option (Bool) :=
 (zbd list (fun x0=>zdg x0)).bind fun y_1 =>
 some (notB y_1)

def zdi (s:(List TNode)) (f_:(TNode→Option (Bool))):Option (Int) :=
 (iter (ρ:=(Int) ⊕ (Unit)) (fun s_1:Int =>
 cond (ltI s_1 (s.length:Int))
 ((at? s s_1).bind fun e_10 =>
 (f_ e_10).bind fun y_15 =>
 cond y_15
 (some (.inr (.inl s_1)))
 (some (.inl (addI s_1 1))))
 (some (.inr (.inr ())))) 0).bind fun r_18 =>
 Sum.elim (fun r_18 =>
 some r_18)
 (fun _r_18 =>
 some (-1)) r_18

def zbp (s:(List TNode)) (f_:(TNode→Option (Bool))):Option (Bool) :=
 (zdi s f_).bind fun y_1 =>
 some (leI 0 y_1)

def zcr (x_:TNode) (c0:Int):Option (Bool) :=
 cond (neI (x_.vars.length:Int) c0)
 (some true)
 (cond (neI (x_.reach.length:Int) c0)
 (some true)
 ((zco x_.vars).bind fun y_3 =>
 cond y_3
 ((zco x_.reach).bind fun y_7 =>
 cond y_7
 ((zcd x_.shared).bind fun y_11 =>
 cond y_11
 (cond (neI x_.many 0)
 (some (neI x_.many 1))
 (some false))
 (some true))
 (some true))
 (some true)))

def zce (vars:Int) (s:TStructure):Option (Bool) :=
 (zay vars 1 4).bind fun y_1 =>
 cond y_1
 (cond (ltI 10 (s.nodes.length:Int))
 (some false)
 (cond (neI (s.next.length:Int) (mulI (s.nodes.length:Int) (s.nodes.length:Int)))
 (some false)
 ((zco s.next).bind fun y_7 =>
 cond y_7
 ((zbp s.nodes (fun x0=>zcr x0 vars)).bind fun y_11 =>
 some (notB y_11))
 (some false))))
 (some false)

def zam (s:TStructure) (i:Int):Option (Bool) :=
 (zay i 0 (subI (s.nodes.length:Int) 1)).bind fun y_1 =>
 some y_1

def zbf (s:TStructure):Option (Int) :=
 cond (eqI (s.nodes.length:Int) 0)
 (some 0)
 ((zcn s).bind fun y_2 =>
 some (addI (mulI 2 y_2) 1))

def zct (s:TStructure) (k_:Int) (i:Int):Option (Int) :=
 (zcn s).bind fun y_1 =>
 (zam s i).bind fun y_4 =>
 cond y_4
 ((at? s.nodes i).bind fun e_8 =>
 cond (eqI k_ (mulI 2 y_1))
 (some e_8.shared)
 ((zay k_ 0 (subI y_1 1)).bind fun y_14 =>
 cond y_14
 ((zay k_ 0 (subI (e_8.vars.length:Int) 1)).bind fun y_18 =>
 cond y_18
 ((at? e_8.vars k_).bind fun e_22 =>
 some e_22)
 (some 1))
 ((zay k_ y_1 (subI (mulI 2 y_1) 1)).bind fun y_27 =>
 cond y_27
 ((zay (subI k_ y_1) 0 (subI (e_8.reach.length:Int) 1)).bind fun y_31 =>
 cond y_31
 ((at? e_8.reach (subI k_ y_1)).bind fun e_35 =>
 some e_35)
 (some 1))
 ((zay k_ 0 (subI 0 1)).bind fun y_40 =>
 cond y_40
 ((at? [] k_).bind fun e_44 =>
 some e_44)
 (some 1)))))
 (some 1)

def zcz (a_:Int):Option (ByteArray) :=
 (zcd a_).bind fun y_1 =>
 cond y_1
 ((sub? (⟨#[48,63,49]⟩:ByteArray) a_ (addI a_ 1)).bind fun z_5 =>
 some z_5)
 (some (⟨#[]⟩:ByteArray))

def zdl (s:TStructure) (i:Int):Option (ByteArray) :=
 (zam s i).bind fun y_1 =>
 cond y_1
 ((zbf s).bind fun y_5 =>
 (iter (ρ:=ByteArray) (fun s_8:ByteArray × Int =>
 cond (ltI s_8.2 y_5)
 ((zct s s_8.2 i).bind fun y_16 =>
 (zcz y_16).bind fun y_19 =>
 (catS s_8.1 y_19).bind fun z_22 =>
 some (.inl (z_22,addI s_8.2 1)))
 (some (.inr s_8.1))) ((⟨#[]⟩:ByteArray),0)).bind fun r_25 =>
 some r_25)
 (some (⟨#[]⟩:ByteArray))

def zdb (s:TStructure) (i:Int) (j:Int):Option (Int) :=
 (zam s i).bind fun y_1 =>
 cond y_1
 ((zam s j).bind fun y_5 =>
 cond y_5
 (cond (neI (s.next.length:Int) (mulI (s.nodes.length:Int) (s.nodes.length:Int)))
 (some 1)
 ((at? s.next (addI (mulI i (s.nodes.length:Int)) j)).bind fun e_10 =>
 some e_10))
 (some 1))
 (some 1)

def zfg (a_:Int) (b_:Int):Option (Int) :=
 cond (neI a_ b_)
 (some 1)
 ((zcd a_).bind fun y_2 =>
 cond y_2
 (some a_)
 (some 1))

def zdk (s:TStructure) (from_:(List Int)) (to_:(List Int)):Option (Int) :=
 (at? from_ 0).bind fun e_1 =>
 (at? to_ 0).bind fun e_6 =>
 (zdb s e_1 e_6).bind fun y_11 =>
 (iter (ρ:=Int) (fun s_14:Int × Int =>
 cond (ltI s_14.2 (from_.length:Int))
 ((at? from_ s_14.2).bind fun e_22 =>
 (iter (ρ:=Int) (fun s_27:Int × Int =>
 cond (ltI s_27.2 (to_.length:Int))
 ((at? to_ s_27.2).bind fun e_35 =>
 (zdb s e_22 e_35).bind fun y_40 =>
 (zfg s_27.1 y_40).bind fun y_43 =>
 some (.inl (y_43,addI s_27.2 1)))
 (some (.inr s_27.1))) (s_14.1,0)).bind fun r_46 =>
 some (.inl (r_46,addI s_14.2 1)))
 (some (.inr s_14.1))) (y_11,0)).bind fun r_51 =>
 some r_51

def zgf (s:TStructure):Option (TStructure) :=
 cond (eqI (s.nodes.length:Int) 0)
 (some (⟨[],[]⟩:TStructure))
 ((zcn s).bind fun y_2 =>
 (zce y_2 s).bind fun y_5 =>
 cond y_5
 ((preT zdl s).bind fun p_9 =>
 (iter (ρ:=(List TNode) × (List Int)) (fun s_11:Int × (List TNode) × (List Int) =>
 cond (ltI s_11.1 (p_9.2.length:Int))
 ((at? p_9.2 s_11.1).bind fun e_19 =>
 (lookT e_19 p_9.1).bind fun y_24 =>
 (at? y_24 0).bind fun e_27 =>
 (at? s.nodes e_27).bind fun e_32 =>
 (zcw e_32).bind fun y_37 =>
 (lookT e_19 p_9.1).bind fun _ =>
 (iter (ρ:=Int) (fun s_42:Int × Int =>
 cond (ltI s_42.1 (y_24.length:Int))
 ((at? y_24 s_42.1).bind fun e_50 =>
 cond (ltI 0 s_42.1)
 (some (.inl (addI s_42.1 1,1)))
 ((at? s.nodes e_50).bind fun e_56 =>
 cond (neI e_56.many 0)
 (some (.inl (addI s_42.1 1,1)))
 (some (.inl (addI s_42.1 1,s_42.2)))))
 (some (.inr s_42.2))) (0,y_37.many)).bind fun r_62 =>
 (room (s_11.2.1.length + [(⟨y_37.vars,y_37.reach,y_37.shared,r_62⟩:TNode)].length) 64).bind fun _ =>
 (iter (ρ:=(List Int)) (fun s_69:Int × (List Int) =>
 cond (ltI s_69.1 (p_9.2.length:Int))
 ((at? p_9.2 s_69.1).bind fun e_77 =>
 (lookT e_19 p_9.1).bind fun _ =>
 (lookT e_77 p_9.1).bind fun y_83 =>
 (zdk s y_24 y_83).bind fun y_86 =>
 (room (s_69.2.length + [y_86].length) 8).bind fun _ =>
 some (.inl (addI s_69.1 1,s_69.2 ++ [y_86])))
 (some (.inr s_69.2))) (0,s_11.2.2)).bind fun r_91 =>
 some (.inl (addI s_11.1 1,s_11.2.1 ++ [(⟨y_37.vars,y_37.reach,y_37.shared,r_62⟩:TNode)],r_91)))
 (some (.inr (s_11.2.1,s_11.2.2)))) (0,[],[])).bind fun r_96 =>
 some (⟨r_96.1,r_96.2⟩:TStructure))
 ((zba s).bind fun y_101 =>
 some y_101))

def zfh (s:ByteArray):Option (Bool) :=
 (iter (ρ:=(Unit) ⊕ (Unit)) (fun s_1:Int =>
 cond (ltI s_1 (s.size:Int))
 ((chr? s s_1).bind fun e_9 =>
 cond (ltI e_9 97)
 (some (.inr (.inl ())))
 ((chr? s s_1).bind fun _ =>
 cond (ltI 122 e_9)
 (some (.inr (.inl ())))
 (some (.inl (addI s_1 1)))))
 (some (.inr (.inr ())))) 0).bind fun r_15 =>
 Sum.elim (fun _r_15 =>
 some false)
 (fun _r_15 =>
 (zay (s.size:Int) 1 2).bind fun y_23 =>
 some y_23) r_15

def zbl (s:(List ByteArray)) (v:ByteArray):Option (Int) :=
 (iter (ρ:=(Int) ⊕ (Unit)) (fun s_1:Int =>
 cond (ltI s_1 (s.length:Int))
 ((at? s s_1).bind fun e_9 =>
 cond (eqS v e_9)
 (some (.inr (.inl s_1)))
 (some (.inl (addI s_1 1))))
 (some (.inr (.inr ())))) 0).bind fun r_15 =>
 Sum.elim (fun r_15 =>
 some r_15)
 (fun _r_15 =>
 some (-1)) r_15

def zej (list:(List ByteArray)) (s:ByteArray):Option (Int) :=
 (zbl list s).bind fun y_1 =>
 some y_1

def zcf (list:(List ByteArray)):Option (Bool) :=
 (iter (ρ:=(Unit) ⊕ (Unit)) (fun s_1:Int =>
 cond (ltI s_1 (list.length:Int))
 ((at? list s_1).bind fun e_9 =>
 (zfh e_9).bind fun y_14 =>
 cond y_14
 ((zej list e_9).bind fun y_18 =>
 cond (neI y_18 s_1)
 (some (.inr (.inl ())))
 (some (.inl (addI s_1 1))))
 (some (.inr (.inl ()))))
 (some (.inr (.inr ())))) 0).bind fun r_22 =>
 Sum.elim (fun _r_22 =>
 some false)
 (fun _r_22 =>
 (zay (list.length:Int) 1 4).bind fun y_30 =>
 some y_30) r_22

def zbx (list:(List Int)):Option (ByteArray) :=
 (iter (ρ:=ByteArray) (fun s_1:ByteArray × Int =>
 cond (ltI s_1.2 (list.length:Int))
 ((at? list s_1.2).bind fun e_9 =>
 (zcz e_9).bind fun y_14 =>
 (catS s_1.1 y_14).bind fun z_17 =>
 some (.inl (z_17,addI s_1.2 1)))
 (some (.inr s_1.1))) ((⟨#[]⟩:ByteArray),0)).bind fun r_20 =>
 some r_20

def zbv (n_:Int):Option (ByteArray) :=
 (zgv n_).bind fun y_1 =>
 some y_1

def zfn (list:(List ByteArray)) (by_:ByteArray):Option (ByteArray) :=
 (strings_Join list by_).bind fun y_1 =>
 some y_1

def zan (vars:(List ByteArray)) (s:TStructure):Option (ByteArray) :=
 (zcf vars).bind fun y_1 =>
 cond y_1
 ((zce (vars.length:Int) s).bind fun y_5 =>
 cond y_5
 (cond (eqI (s.nodes.length:Int) 0)
 (some (⟨#[45]⟩:ByteArray))
 ((iter (ρ:=(List ByteArray)) (fun s_10:(List ByteArray) × Int =>
 cond (ltI s_10.2 (s.nodes.length:Int))
 ((at? s.nodes s_10.2).bind fun e_18 =>
 (zbx e_18.vars).bind fun y_24 =>
 (zbx e_18.reach).bind fun y_27 =>
 (catS y_24 y_27).bind fun z_30 =>
 (zbx [e_18.shared]).bind fun y_33 =>
 (catS z_30 y_33).bind fun z_36 =>
 cond (eqI e_18.many 1)
 ((catS z_36 (⟨#[42]⟩:ByteArray)).bind fun z_40 =>
 (iter (ρ:=(List ByteArray)) (fun s_43:(List ByteArray) × Int =>
 cond (ltI s_43.2 (s.nodes.length:Int))
 ((zdb s s_10.2 s_43.2).bind fun y_51 =>
 cond (eqI y_51 2)
 ((zbv s_43.2).bind fun y_55 =>
 (room (s_43.1.length + [y_55].length) 16).bind fun _ =>
 some (.inl (s_43.1 ++ [y_55],addI s_43.2 1)))
 (cond (eqI y_51 1)
 ((zbv s_43.2).bind fun y_61 =>
 (catS y_61 (⟨#[63]⟩:ByteArray)).bind fun z_64 =>
 (room (s_43.1.length + [z_64].length) 16).bind fun _ =>
 some (.inl (s_43.1 ++ [z_64],addI s_43.2 1)))
 (some (.inl (s_43.1,addI s_43.2 1)))))
 (some (.inr s_43.1))) ([],0)).bind fun r_69 =>
 cond (ltI 0 (r_69.length:Int))
 ((zfn r_69 (⟨#[44]⟩:ByteArray)).bind fun y_75 =>
 (catS (⟨#[62]⟩:ByteArray) y_75).bind fun z_78 =>
 (catS z_40 z_78).bind fun z_81 =>
 (room (s_10.1.length + [z_81].length) 16).bind fun _ =>
 some (.inl (s_10.1 ++ [z_81],addI s_10.2 1)))
 ((room (s_10.1.length + [z_40].length) 16).bind fun _ =>
 some (.inl (s_10.1 ++ [z_40],addI s_10.2 1))))
 ((iter (ρ:=(List ByteArray)) (fun s_88:(List ByteArray) × Int =>
 cond (ltI s_88.2 (s.nodes.length:Int))
 ((zdb s s_10.2 s_88.2).bind fun y_96 =>
 cond (eqI y_96 2)
 ((zbv s_88.2).bind fun y_100 =>
 (room (s_88.1.length + [y_100].length) 16).bind fun _ =>
 some (.inl (s_88.1 ++ [y_100],addI s_88.2 1)))
 (cond (eqI y_96 1)
 ((zbv s_88.2).bind fun y_106 =>
 (catS y_106 (⟨#[63]⟩:ByteArray)).bind fun z_109 =>
 (room (s_88.1.length + [z_109].length) 16).bind fun _ =>
 some (.inl (s_88.1 ++ [z_109],addI s_88.2 1)))
 (some (.inl (s_88.1,addI s_88.2 1)))))
 (some (.inr s_88.1))) ([],0)).bind fun r_114 =>
 cond (ltI 0 (r_114.length:Int))
 ((zfn r_114 (⟨#[44]⟩:ByteArray)).bind fun y_120 =>
 (catS (⟨#[62]⟩:ByteArray) y_120).bind fun z_123 =>
 (catS z_36 z_123).bind fun z_126 =>
 (room (s_10.1.length + [z_126].length) 16).bind fun _ =>
 some (.inl (s_10.1 ++ [z_126],addI s_10.2 1)))
 ((room (s_10.1.length + [z_36].length) 16).bind fun _ =>
 some (.inl (s_10.1 ++ [z_36],addI s_10.2 1)))))
 (some (.inr s_10.1))) ([],0)).bind fun r_133 =>
 (zfn r_133 (⟨#[32]⟩:ByteArray)).bind fun y_138 =>
 some y_138))
 (some (⟨#[]⟩:ByteArray)))
 (some (⟨#[]⟩:ByteArray))

def zea (s:TStructure):Option (ByteArray) :=
 cond (eqI (s.nodes.length:Int) 0)
 (some (⟨#[45]⟩:ByteArray))
 ((zcn s).bind fun y_2 =>
 (slc [(⟨#[97]⟩:ByteArray),(⟨#[98]⟩:ByteArray),(⟨#[99]⟩:ByteArray),(⟨#[100]⟩:ByteArray)] 0 (minI y_2 4)).bind fun z_5 =>
 (zan z_5 s).bind fun y_12 =>
 some y_12)

def zar (s:(List TStructure)) (f_:(TStructure→Option (Bool))):Option (Int) :=
 (iter (ρ:=(Int) ⊕ (Unit)) (fun s_1:Int =>
 cond (ltI s_1 (s.length:Int))
 ((at? s s_1).bind fun e_10 =>
 (f_ e_10).bind fun y_15 =>
 cond y_15
 (some (.inr (.inl s_1)))
 (some (.inl (addI s_1 1))))
 (some (.inr (.inr ())))) 0).bind fun r_18 =>
 Sum.elim (fun r_18 =>
 some r_18)
 (fun _r_18 =>
 some (-1)) r_18

def zas (s:(List TStructure)) (f_:(TStructure→Option (Bool))):Option (Bool) :=
 (zar s f_).bind fun y_1 =>
 some (leI 0 y_1)

def zds (y_:TStructure) (c0:ByteArray):Option (Bool) :=
 (zea y_).bind fun y_1 =>
 some (eqS y_1 c0)

def zdr (y_:TStructure) (c0:ByteArray):Option (Bool) :=
 (zea y_).bind fun y_1 =>
 some (gtT y_1 c0)

def zby (set:(List TStructure)) (s:TStructure):Option ((List TStructure)) :=
 (zei set).bind fun y_1 =>
 (zgf s).bind fun y_4 =>
 (zea y_4).bind fun y_7 =>
 (zas set (fun x0=>zds x0 y_7)).bind fun y_10 =>
 cond y_10
 (some y_1)
 ((zar set (fun x0=>zdr x0 y_7)).bind fun y_13 =>
 cond (ltI y_13 0)
 ((zaw y_1 (y_1.length:Int) [y_4]).bind fun y_18 =>
 some y_18)
 ((zaw y_1 y_13 [y_4]).bind fun y_23 =>
 some y_23))

def laws_eqIntS (a_:(List Int)) (b_:(List Int)):Option (Bool) :=
 cond (neI (a_.length:Int) (b_.length:Int))
 (some false)
 ((iter (ρ:=(Unit) ⊕ (Unit)) (fun s_2:Int =>
 cond (ltI s_2 (a_.length:Int))
 ((at? a_ s_2).bind fun e_10 =>
 (at? b_ s_2).bind fun e_15 =>
 cond (neI e_10 e_15)
 (some (.inr (.inl ())))
 (some (.inl (addI s_2 1))))
 (some (.inr (.inr ())))) 0).bind fun r_21 =>
 Sum.elim (fun _r_21 =>
 some false)
 (fun _r_21 =>
 some true) r_21)

def laws_eqNode (a_:TNode) (b_:TNode):Option (Bool) :=
 (laws_eqIntS a_.vars b_.vars).bind fun y_1 =>
 cond y_1
 ((laws_eqIntS a_.reach b_.reach).bind fun y_5 =>
 cond y_5
 (cond (neI a_.shared b_.shared)
 (some false)
 (cond (neI a_.many b_.many)
 (some false)
 (some true)))
 (some false))
 (some false)

def laws_eqNodeS (a_:(List TNode)) (b_:(List TNode)):Option (Bool) :=
 cond (neI (a_.length:Int) (b_.length:Int))
 (some false)
 ((iter (ρ:=(Unit) ⊕ (Unit)) (fun s_2:Int =>
 cond (ltI s_2 (a_.length:Int))
 ((at? a_ s_2).bind fun e_10 =>
 (at? b_ s_2).bind fun e_15 =>
 (laws_eqNode e_10 e_15).bind fun y_20 =>
 cond y_20
 (some (.inl (addI s_2 1)))
 (some (.inr (.inl ()))))
 (some (.inr (.inr ())))) 0).bind fun r_24 =>
 Sum.elim (fun _r_24 =>
 some false)
 (fun _r_24 =>
 some true) r_24)

def laws_eqStructure (a_:TStructure) (b_:TStructure):Option (Bool) :=
 (laws_eqNodeS a_.nodes b_.nodes).bind fun y_1 =>
 cond y_1
 ((laws_eqIntS a_.next b_.next).bind fun y_5 =>
 cond y_5
 (some true)
 (some false))
 (some false)

def laws_eqStructureS (a_:(List TStructure)) (b_:(List TStructure)):Option (Bool) :=
 cond (neI (a_.length:Int) (b_.length:Int))
 (some false)
 ((iter (ρ:=(Unit) ⊕ (Unit)) (fun s_2:Int =>
 cond (ltI s_2 (a_.length:Int))
 ((at? a_ s_2).bind fun e_10 =>
 (at? b_ s_2).bind fun e_15 =>
 (laws_eqStructure e_10 e_15).bind fun y_20 =>
 cond y_20
 (some (.inl (addI s_2 1)))
 (some (.inr (.inl ()))))
 (some (.inr (.inr ())))) 0).bind fun r_24 =>
 Sum.elim (fun _r_24 =>
 some false)
 (fun _r_24 =>
 some true) r_24)

def laws_heldIntS (a_:(List Int)) (k_:Int):Option (Int) :=
 (iter (ρ:=(Int) ⊕ (Int)) (fun s_1:Int × Int =>
 cond (ltI s_1.2 (a_.length:Int))
 ((at? a_ s_1.2).bind fun e_9 =>
 cond (neI e_9 s_1.1)
 (some (.inr (.inl (-1))))
 (some (.inl (addI s_1.1 1,addI s_1.2 1))))
 (some (.inr (.inr s_1.1)))) (k_,0)).bind fun r_15 =>
 Sum.elim (fun r_15 =>
 some r_15)
 (fun r_15 =>
 some r_15) r_15

def laws_heldNodeS (a_:(List TNode)) (k_:Int):Option (Int) :=
 (iter (ρ:=(Int) ⊕ (Int)) (fun s_1:Int × Int =>
 cond (ltI s_1.2 (a_.length:Int))
 ((at? a_ s_1.2).bind fun e_9 =>
 (laws_heldIntS e_9.vars s_1.1).bind fun y_14 =>
 cond (ltI y_14 0)
 (some (.inr (.inl (-1))))
 ((at? a_ s_1.2).bind fun _ =>
 (laws_heldIntS e_9.reach y_14).bind fun y_23 =>
 cond (ltI y_23 0)
 (some (.inr (.inl (-1))))
 ((at? a_ s_1.2).bind fun _ =>
 cond (neI e_9.shared y_23)
 (some (.inr (.inl (-1))))
 ((at? a_ s_1.2).bind fun _ =>
 cond (neI e_9.many (addI y_23 1))
 (some (.inr (.inl (-1))))
 (some (.inl (addI (addI y_23 1) 1,addI s_1.2 1)))))))
 (some (.inr (.inr s_1.1)))) (k_,0)).bind fun r_39 =>
 Sum.elim (fun r_39 =>
 some r_39)
 (fun r_39 =>
 some r_39) r_39

def laws_heldStructureS (a_:(List TStructure)) (k_:Int):Option (Int) :=
 (iter (ρ:=(Int) ⊕ (Int)) (fun s_1:Int × Int =>
 cond (ltI s_1.2 (a_.length:Int))
 ((at? a_ s_1.2).bind fun e_9 =>
 (laws_heldNodeS e_9.nodes s_1.1).bind fun y_14 =>
 cond (ltI y_14 0)
 (some (.inr (.inl (-1))))
 ((at? a_ s_1.2).bind fun _ =>
 (laws_heldIntS e_9.next y_14).bind fun y_23 =>
 cond (ltI y_23 0)
 (some (.inr (.inl (-1))))
 (some (.inl (y_23,addI s_1.2 1)))))
 (some (.inr (.inr s_1.1)))) (k_,0)).bind fun r_27 =>
 Sum.elim (fun r_27 =>
 some r_27)
 (fun r_27 =>
 some r_27) r_27

def laws_FnExactAddToSet (aSet:(List TStructure)) (aS:TStructure):Option (Bool) :=
 (laws_szStructureS aSet 1048576).bind fun y_1 =>
 cond (ltI y_1 0)
 (some true)
 ((laws_szStructure aS y_1).bind fun y_5 =>
 cond (ltI y_5 0)
 (some true)
 ((laws_toStructureS aSet).bind fun y_9 =>
 (laws_toStructure aS).bind fun y_12 =>
 (zcm y_9 y_12).bind fun y_15 =>
 (laws_toStructureS aSet).bind fun _ =>
 (laws_toStructure aS).bind fun _ =>
 (zby y_9 y_12).bind fun y_22 =>
 (laws_eqStructureS y_22 y_15).bind fun y_25 =>
 cond y_25
 ((laws_toStructureS aSet).bind fun _ =>
 (laws_eqStructureS y_9 y_9).bind fun y_31 =>
 cond y_31
 ((laws_toStructure aS).bind fun _ =>
 (laws_eqStructure y_12 y_12).bind fun y_37 =>
 cond y_37
 ((markO zal y_9 1).bind fun r_41 =>
 (markO zep y_12 r_41.2).bind fun r_63 =>
 cond (ltI r_63.2 0)
 (some false)
 ((laws_eqStructureS y_22 y_15).bind fun y_85 =>
 cond y_85
 ((markO zal y_22 1).bind fun r_89 =>
 (laws_heldStructureS r_89.1 1).bind fun y_110 =>
 cond (ltI y_110 0)
 (some false)
 (cond (neI y_110 r_89.2)
 (some false)
 ((laws_toStructureS aSet).bind fun y_115 =>
 (laws_toStructure aS).bind fun y_118 =>
 (zby y_115 y_118).bind fun y_121 =>
 (laws_eqStructureS y_121 y_15).bind fun y_124 =>
 cond y_124
 ((laws_heldStructureS r_89.1 1).bind fun _ =>
 some true)
 (some false))))
 (some false)))
 (some false))
 (some false))
 (some false)))

def zmu (set:(List TStructure)):Option ((List TStructure)) :=
 (iter (ρ:=(List TStructure)) (fun s_1:(List TStructure) × Int =>
 cond (ltI s_1.2 (set.length:Int))
 ((at? set s_1.2).bind fun e_9 =>
 (zbg e_9).bind fun y_14 =>
 (room (s_1.1.length + [y_14].length) 48).bind fun _ =>
 some (.inl (s_1.1 ++ [y_14],addI s_1.2 1)))
 (some (.inr s_1.1))) ([],0)).bind fun r_19 =>
 some r_19

def zhj (a_:(List TStructure)) (b_:(List TStructure)):Option ((List TStructure)) :=
 (zmu a_).bind fun y_1 =>
 (iter (ρ:=(List TStructure)) (fun s_4:(List TStructure) × Int =>
 cond (ltI s_4.2 (b_.length:Int))
 ((at? b_ s_4.2).bind fun e_12 =>
 (zcm s_4.1 e_12).bind fun y_17 =>
 some (.inl (y_17,addI s_4.2 1)))
 (some (.inr s_4.1))) (y_1,0)).bind fun r_20 =>
 some r_20

def zfz (a_:(List TStructure)) (b_:(List TStructure)):Option ((List TStructure)) :=
 (zei a_).bind fun y_1 =>
 (iter (ρ:=(List TStructure)) (fun s_4:(List TStructure) × Int =>
 cond (ltI s_4.2 (b_.length:Int))
 ((at? b_ s_4.2).bind fun e_12 =>
 (zby s_4.1 e_12).bind fun y_18 =>
 some (.inl (y_18,addI s_4.2 1)))
 (some (.inr s_4.1))) (y_1,0)).bind fun r_21 =>
 some r_21

def laws_FnExactUniteSets (aA:(List TStructure)) (aB:(List TStructure)):Option (Bool) :=
 (laws_szStructureS aA 1048576).bind fun y_1 =>
 cond (ltI y_1 0)
 (some true)
 ((laws_szStructureS aB y_1).bind fun y_5 =>
 cond (ltI y_5 0)
 (some true)
 ((laws_toStructureS aA).bind fun y_9 =>
 (laws_toStructureS aB).bind fun y_12 =>
 (zhj y_9 y_12).bind fun y_15 =>
 (laws_toStructureS aA).bind fun _ =>
 (laws_toStructureS aB).bind fun _ =>
 (zfz y_9 y_12).bind fun y_22 =>
 (laws_eqStructureS y_22 y_15).bind fun y_25 =>
 cond y_25
 ((laws_toStructureS aA).bind fun _ =>
 (laws_eqStructureS y_9 y_9).bind fun y_31 =>
 cond y_31
 ((laws_toStructureS aB).bind fun _ =>
 (laws_eqStructureS y_12 y_12).bind fun y_37 =>
 cond y_37
 ((markO zal y_9 1).bind fun r_41 =>
 (markO zal y_12 r_41.2).bind fun r_61 =>
 cond (ltI r_61.2 0)
 (some false)
 ((laws_eqStructureS y_22 y_15).bind fun y_81 =>
 cond y_81
 ((markO zal y_22 1).bind fun r_85 =>
 (laws_heldStructureS r_85.1 1).bind fun y_104 =>
 cond (ltI y_104 0)
 (some false)
 (cond (neI y_104 r_85.2)
 (some false)
 ((laws_toStructureS aA).bind fun y_109 =>
 (laws_toStructureS aB).bind fun y_112 =>
 (zfz y_109 y_112).bind fun y_115 =>
 (laws_eqStructureS y_115 y_15).bind fun y_118 =>
 cond y_118
 ((laws_heldStructureS r_85.1 1).bind fun _ =>
 some true)
 (some false))))
 (some false)))
 (some false))
 (some false))
 (some false)))

def laws_szHeap (a_:THeap) (left:Int):Option (Int) :=
 (laws_szIntS a_.vars left).bind fun y_1 =>
 cond (ltI y_1 0)
 (some (-1))
 ((laws_szIntS a_.next y_1).bind fun y_5 =>
 cond (ltI y_5 0)
 (some (-1))
 (some y_5))

def laws_szHeapS (a_:(List THeap)) (left:Int):Option (Int) :=
 cond (ltI (subI left (a_.length:Int)) 0)
 (some (-1))
 ((iter (ρ:=(Int) ⊕ (Int)) (fun s_2:Int × Int =>
 cond (ltI s_2.2 (a_.length:Int))
 ((at? a_ s_2.2).bind fun e_10 =>
 (laws_szHeap e_10 s_2.1).bind fun y_15 =>
 cond (ltI y_15 0)
 (some (.inr (.inl (-1))))
 (some (.inl (y_15,addI s_2.2 1))))
 (some (.inr (.inr s_2.1)))) (subI left (a_.length:Int),0)).bind fun r_19 =>
 Sum.elim (fun r_19 =>
 some r_19)
 (fun r_19 =>
 some r_19) r_19)

def laws_toHeap (a_:THeap):Option (THeap) :=
 (laws_toIntS a_.vars).bind fun y_1 =>
 (laws_toIntS a_.next).bind fun y_4 =>
 some (⟨y_1,y_4⟩:THeap)

def laws_toHeapS (a_:(List THeap)):Option ((List THeap)) :=
 (roomI (a_.length:Int) 48).bind fun _ =>
 (iter (ρ:=(List THeap)) (fun s_5:Int × (List THeap) =>
 cond (ltI s_5.1 (a_.length:Int))
 ((at? a_ s_5.1).bind fun e_13 =>
 (laws_toHeap e_13).bind fun y_18 =>
 (at? s_5.2 s_5.1).bind fun e_21 =>
 some (.inl (addI s_5.1 1,s_5.2.set s_5.1.toNat y_18)))
 (some (.inr s_5.2))) (0,List.replicate (a_.length:Int).toNat ((⟨[],[]⟩:THeap):THeap))).bind fun r_27 =>
 some r_27

def zmt (h_:THeap):Option (Bool) :=
 (iter (ρ:=(Unit) ⊕ (Unit)) (fun s_1:Int =>
 cond (ltI s_1 (h_.vars.length:Int))
 ((at? h_.vars s_1).bind fun e_9 =>
 (zbb e_9 (-1) (subI (h_.next.length:Int) 1)).bind fun y_14 =>
 cond y_14
 (some (.inl (addI s_1 1)))
 (some (.inr (.inl ()))))
 (some (.inr (.inr ())))) 0).bind fun r_18 =>
 Sum.elim (fun _r_18 =>
 some false)
 (fun _r_18 =>
 (iter (ρ:=(Bool) ⊕ (Unit)) (fun s_26:Int =>
 cond (ltI s_26 (h_.next.length:Int))
 ((at? h_.next s_26).bind fun e_34 =>
 (zbb e_34 (-1) (subI (h_.next.length:Int) 1)).bind fun y_39 =>
 cond y_39
 (some (.inl (addI s_26 1)))
 (some (.inr (.inl false))))
 (some (.inr (.inr ())))) 0).bind fun r_43 =>
 Sum.elim (fun r_43 =>
 some r_43)
 (fun _r_43 =>
 some true) r_43) r_18

def zhk (list:(List Int)) (n_:Int):Option ((List Int)) :=
 (iter (ρ:=(List Int)) (fun s_1:(List Int) × Int =>
 cond (ltI s_1.2 (list.length:Int))
 ((at? list s_1.2).bind fun e_9 =>
 cond (eqI e_9 n_)
 ((room (s_1.1.length + [s_1.2].length) 8).bind fun _ =>
 some (.inl (s_1.1 ++ [s_1.2],addI s_1.2 1)))
 (some (.inl (s_1.1,addI s_1.2 1))))
 (some (.inr s_1.1))) ([],0)).bind fun r_17 =>
 some r_17

def ziw (on:Bool):Option (Int) :=
 cond on
 (some 2)
 (some 0)

def zme (list:(List Int)) (n_:Int):Option (Bool) :=
 (zhk list n_).bind fun y_1 =>
 some (ltI 0 (y_1.length:Int))

def zlc (h_:THeap) (cell:Int):Option ((List Int)) :=
 (iter (ρ:=((List Int)) ⊕ (Unit)) (fun s_1:Int × (List Int) =>
 cond (neI s_1.1 (-1))
 ((zme s_1.2 s_1.1).bind fun y_9 =>
 cond y_9
 (some (.inr (.inl s_1.2)))
 ((zbb s_1.1 0 (subI (h_.next.length:Int) 1)).bind fun y_13 =>
 cond y_13
 ((room (s_1.2.length + [s_1.1].length) 8).bind fun _ =>
 (at? h_.next s_1.1).bind fun e_19 =>
 some (.inl (e_19,s_1.2 ++ [s_1.1])))
 (some (.inr (.inr ())))))
 (some (.inr (.inl s_1.2)))) (cell,[])).bind fun r_24 =>
 Sum.elim (fun r_24 =>
 some r_24)
 (fun _r_24 =>
 some []) r_24

def zip (h_:THeap):Option (TStructure) :=
 (zmt h_).bind fun y_1 =>
 cond y_1
 (cond (ltI 10 (h_.next.length:Int))
 (some (⟨[],[]⟩:TStructure))
 ((zbb (h_.vars.length:Int) 1 4).bind fun y_6 =>
 cond y_6
 ((iter (ρ:=(List TNode) × (List Int)) (fun s_10:Int × (List TNode) × (List Int) =>
 cond (ltI s_10.1 (h_.next.length:Int))
 ((zhk h_.next s_10.1).bind fun y_18 =>
 (ziw (ltI 1 (y_18.length:Int))).bind fun y_21 =>
 (iter (ρ:=(List Int) × (List Int)) (fun s_25:Int × (List Int) × (List Int) =>
 cond (ltI s_25.1 (h_.vars.length:Int))
 ((at? h_.vars s_25.1).bind fun e_33 =>
 (ziw (eqI e_33 s_10.1)).bind fun y_38 =>
 (room (s_25.2.1.length + [y_38].length) 8).bind fun _ =>
 (at? h_.vars s_25.1).bind fun _ =>
 (zlc h_ e_33).bind fun y_48 =>
 (zme y_48 s_10.1).bind fun y_51 =>
 (ziw y_51).bind fun y_54 =>
 (room (s_25.2.2.length + [y_54].length) 8).bind fun _ =>
 some (.inl (addI s_25.1 1,s_25.2.1 ++ [y_38],s_25.2.2 ++ [y_54])))
 (some (.inr (s_25.2.1,s_25.2.2)))) (0,[],[])).bind fun r_59 =>
 (room (s_10.2.1.length + [(⟨r_59.1,r_59.2,y_21,0⟩:TNode)].length) 64).bind fun _ =>
 (iter (ρ:=(List Int)) (fun s_66:Int × (List Int) =>
 cond (ltI s_66.1 (h_.next.length:Int))
 ((at? h_.next s_10.1).bind fun e_74 =>
 (ziw (eqI e_74 s_66.1)).bind fun y_79 =>
 (room (s_66.2.length + [y_79].length) 8).bind fun _ =>
 some (.inl (addI s_66.1 1,s_66.2 ++ [y_79])))
 (some (.inr s_66.2))) (0,s_10.2.2)).bind fun r_84 =>
 some (.inl (addI s_10.1 1,s_10.2.1 ++ [(⟨r_59.1,r_59.2,y_21,0⟩:TNode)],r_84)))
 (some (.inr (s_10.2.1,s_10.2.2)))) (0,[],[])).bind fun r_89 =>
 some (⟨r_89.1,r_89.2⟩:TStructure))
 (some (⟨[],[]⟩:TStructure))))
 (some (⟨[],[]⟩:TStructure))

def zgx (h_:THeap):Option (TStructure) :=
 (zip h_).bind fun y_1 =>
 (zgb y_1).bind fun y_4 =>
 some y_4

def zgh (list:(List THeap)):Option ((List TStructure)) :=
 (iter (ρ:=(List TStructure)) (fun s_1:(List TStructure) × Int =>
 cond (ltI s_1.2 (list.length:Int))
 ((at? list s_1.2).bind fun e_9 =>
 (zgx e_9).bind fun y_14 =>
 (zcm s_1.1 y_14).bind fun y_17 =>
 some (.inl (y_17,addI s_1.2 1)))
 (some (.inr s_1.1))) ([],0)).bind fun r_20 =>
 some r_20

def zfc (h_:THeap) (n_:Int):Option (Bool) :=
 (zay n_ 0 (subI (h_.next.length:Int) 1)).bind fun y_1 =>
 some y_1

def zka (n_:Int) (c0:THeap):Option (Bool) :=
 cond (neI n_ (-1))
 ((zfc c0 n_).bind fun y_2 =>
 some (notB y_2))
 (some false)

def zhe (h_:THeap):Option (Bool) :=
 (zhq [h_.vars,h_.next]).bind fun y_1 =>
 (zbd y_1 (fun x0=>zka x0 h_)).bind fun y_4 =>
 some (notB y_4)

def zkc (list:(List Int)) (n_:Int):Option ((List Int)) :=
 (iter (ρ:=(List Int)) (fun s_1:(List Int) × Int =>
 cond (ltI s_1.2 (list.length:Int))
 ((at? list s_1.2).bind fun e_9 =>
 cond (eqI e_9 n_)
 ((room (s_1.1.length + [s_1.2].length) 8).bind fun _ =>
 some (.inl (s_1.1 ++ [s_1.2],addI s_1.2 1)))
 (some (.inl (s_1.1,addI s_1.2 1))))
 (some (.inr s_1.1))) ([],0)).bind fun r_17 =>
 some r_17

def zge (b_:Bool):Option (Int) :=
 cond b_
 (some 2)
 (some 0)

def ziq (s:(List Int)) (v:Int):Option (Int) :=
 (iter (ρ:=(Int) ⊕ (Unit)) (fun s_1:Int =>
 cond (ltI s_1 (s.length:Int))
 ((at? s s_1).bind fun e_9 =>
 cond (eqI v e_9)
 (some (.inr (.inl s_1)))
 (some (.inl (addI s_1 1))))
 (some (.inr (.inr ())))) 0).bind fun r_15 =>
 Sum.elim (fun r_15 =>
 some r_15)
 (fun _r_15 =>
 some (-1)) r_15

def zdx (s:(List Int)) (v:Int):Option (Bool) :=
 (ziq s v).bind fun y_1 =>
 some (leI 0 y_1)

def zlq (h_:THeap) (cell:Int):Option ((List Int)) :=
 (iter (ρ:=((List Int)) ⊕ (Unit)) (fun s_1:(List Int) × Int =>
 cond (neI s_1.2 (-1))
 ((zfc h_ s_1.2).bind fun y_9 =>
 cond y_9
 ((zdx s_1.1 s_1.2).bind fun y_13 =>
 cond y_13
 (some (.inr (.inl s_1.1)))
 ((room (s_1.1.length + [s_1.2].length) 8).bind fun _ =>
 (at? h_.next s_1.2).bind fun e_19 =>
 some (.inl (s_1.1 ++ [s_1.2],e_19))))
 (some (.inr (.inr ()))))
 (cond (eqI cell (-1))
 ((zfc h_ s_1.2).bind fun y_25 =>
 cond y_25
 ((zdx s_1.1 s_1.2).bind fun y_29 =>
 cond y_29
 (some (.inr (.inl s_1.1)))
 ((room (s_1.1.length + [s_1.2].length) 8).bind fun _ =>
 (at? h_.next s_1.2).bind fun e_35 =>
 some (.inl (s_1.1 ++ [s_1.2],e_35))))
 (some (.inr (.inr ()))))
 (some (.inr (.inl s_1.1))))) ([],cell)).bind fun r_40 =>
 Sum.elim (fun r_40 =>
 some r_40)
 (fun _r_40 =>
 some []) r_40

def zir (h_:THeap):Option (TStructure) :=
 (zhe h_).bind fun y_1 =>
 cond y_1
 (cond (ltI 10 (h_.next.length:Int))
 (some (⟨[],[]⟩:TStructure))
 ((zay (h_.vars.length:Int) 1 4).bind fun y_6 =>
 cond y_6
 ((iter (ρ:=(List TNode) × (List Int)) (fun s_10:Int × (List TNode) × (List Int) =>
 cond (ltI s_10.1 (h_.next.length:Int))
 ((zkc h_.next s_10.1).bind fun y_18 =>
 (zge (ltI 1 (y_18.length:Int))).bind fun y_21 =>
 (iter (ρ:=(List Int) × (List Int)) (fun s_25:Int × (List Int) × (List Int) =>
 cond (ltI s_25.1 (h_.vars.length:Int))
 ((at? h_.vars s_25.1).bind fun e_33 =>
 (zge (eqI e_33 s_10.1)).bind fun y_38 =>
 (room (s_25.2.1.length + [y_38].length) 8).bind fun _ =>
 (zlq h_ e_33).bind fun y_43 =>
 (zdx y_43 s_10.1).bind fun y_46 =>
 (zge y_46).bind fun y_49 =>
 (room (s_25.2.2.length + [y_49].length) 8).bind fun _ =>
 some (.inl (addI s_25.1 1,s_25.2.1 ++ [y_38],s_25.2.2 ++ [y_49])))
 (some (.inr (s_25.2.1,s_25.2.2)))) (0,[],[])).bind fun r_54 =>
 (room (s_10.2.1.length + [(⟨r_54.1,r_54.2,y_21,0⟩:TNode)].length) 64).bind fun _ =>
 (iter (ρ:=(List Int)) (fun s_61:Int × (List Int) =>
 cond (ltI s_61.1 (h_.next.length:Int))
 ((at? h_.next s_10.1).bind fun e_69 =>
 (zge (eqI e_69 s_61.1)).bind fun y_74 =>
 (room (s_61.2.length + [y_74].length) 8).bind fun _ =>
 some (.inl (addI s_61.1 1,s_61.2 ++ [y_74])))
 (some (.inr s_61.2))) (0,s_10.2.2)).bind fun r_79 =>
 some (.inl (addI s_10.1 1,s_10.2.1 ++ [(⟨r_54.1,r_54.2,y_21,0⟩:TNode)],r_79)))
 (some (.inr (s_10.2.1,s_10.2.2)))) (0,[],[])).bind fun r_84 =>
 some (⟨r_84.1,r_84.2⟩:TStructure))
 (some (⟨[],[]⟩:TStructure))))
 (some (⟨[],[]⟩:TStructure))

def zhf (h_:THeap):Option (TStructure) :=
 (zir h_).bind fun y_1 =>
 (zgf y_1).bind fun y_4 =>
 some y_4

def zfd (list:(List THeap)):Option ((List TStructure)) :=
 (iter (ρ:=(List TStructure)) (fun s_1:(List TStructure) × Int =>
 cond (ltI s_1.2 (list.length:Int))
 ((at? list s_1.2).bind fun e_9 =>
 (zhf e_9).bind fun y_15 =>
 (zby s_1.1 y_15).bind fun y_18 =>
 some (.inl (y_18,addI s_1.2 1)))
 (some (.inr s_1.1))) ([],0)).bind fun r_21 =>
 some r_21

def laws_eqHeap (a_:THeap) (b_:THeap):Option (Bool) :=
 (laws_eqIntS a_.vars b_.vars).bind fun y_1 =>
 cond y_1
 ((laws_eqIntS a_.next b_.next).bind fun y_5 =>
 cond y_5
 (some true)
 (some false))
 (some false)

def laws_eqHeapS (a_:(List THeap)) (b_:(List THeap)):Option (Bool) :=
 cond (neI (a_.length:Int) (b_.length:Int))
 (some false)
 ((iter (ρ:=(Unit) ⊕ (Unit)) (fun s_2:Int =>
 cond (ltI s_2 (a_.length:Int))
 ((at? a_ s_2).bind fun e_10 =>
 (at? b_ s_2).bind fun e_15 =>
 (laws_eqHeap e_10 e_15).bind fun y_20 =>
 cond y_20
 (some (.inl (addI s_2 1)))
 (some (.inr (.inl ()))))
 (some (.inr (.inr ())))) 0).bind fun r_24 =>
 Sum.elim (fun _r_24 =>
 some false)
 (fun _r_24 =>
 some true) r_24)

def laws_FnExactAbstractAll (aList:(List THeap)):Option (Bool) :=
 (laws_szHeapS aList 1048576).bind fun y_1 =>
 cond (ltI y_1 0)
 (some true)
 ((laws_toHeapS aList).bind fun y_5 =>
 (zgh y_5).bind fun y_8 =>
 (laws_toHeapS aList).bind fun _ =>
 (zfd y_5).bind fun y_13 =>
 (laws_eqStructureS y_13 y_8).bind fun y_16 =>
 cond y_16
 ((laws_toHeapS aList).bind fun _ =>
 (laws_eqHeapS y_5 y_5).bind fun y_22 =>
 cond y_22
 ((markO zli y_5 1).bind fun r_26 =>
 cond (ltI r_26.2 0)
 (some false)
 ((laws_eqStructureS y_13 y_8).bind fun y_45 =>
 cond y_45
 ((markO zal y_13 1).bind fun r_49 =>
 (laws_heldStructureS r_49.1 1).bind fun y_67 =>
 cond (ltI y_67 0)
 (some false)
 (cond (neI y_67 r_49.2)
 (some false)
 ((laws_toHeapS aList).bind fun y_72 =>
 (zfd y_72).bind fun y_75 =>
 (laws_eqStructureS y_75 y_8).bind fun y_78 =>
 cond y_78
 ((laws_heldStructureS r_49.1 1).bind fun _ =>
 some true)
 (some false))))
 (some false)))
 (some false))
 (some false))

def zdn (set:(List TStructure)):Option ((List TStructure)) :=
 (iter (ρ:=(List TStructure)) (fun s_1:(List TStructure) × Int =>
 cond (ltI s_1.2 (set.length:Int))
 ((at? set s_1.2).bind fun e_9 =>
 (zbg e_9).bind fun y_14 =>
 (iter (ρ:=(List TNode)) (fun s_18:Int × (List TNode) =>
 cond (ltI s_18.1 (s_18.2.length:Int))
 ((at? s_18.2 s_18.1).bind fun e_27 =>
 some (.inl (addI s_18.1 1,s_18.2.set s_18.1.toNat (⟨e_27.vars,e_27.reach,1,e_27.many⟩:TNode))))
 (some (.inr s_18.2))) (0,y_14.nodes)).bind fun r_33 =>
 (zcm s_1.1 (⟨r_33,y_14.next⟩:TStructure)).bind fun y_38 =>
 some (.inl (y_38,addI s_1.2 1)))
 (some (.inr s_1.1))) ([],0)).bind fun r_41 =>
 some r_41

def zcy (set:(List TStructure)):Option ((List TStructure)) :=
 (iter (ρ:=(List TStructure)) (fun s_1:(List TStructure) × Int =>
 cond (ltI s_1.2 (set.length:Int))
 ((at? set s_1.2).bind fun e_9 =>
 (zba e_9).bind fun y_15 =>
 (iter (ρ:=(List TNode)) (fun s_19:Int × (List TNode) =>
 cond (ltI s_19.1 (y_15.nodes.length:Int))
 ((at? s_19.2 s_19.1).bind fun e_28 =>
 some (.inl (addI s_19.1 1,s_19.2.set s_19.1.toNat (⟨e_28.vars,e_28.reach,1,e_28.many⟩:TNode))))
 (some (.inr s_19.2))) (0,y_15.nodes)).bind fun r_34 =>
 (zby s_1.1 (⟨r_34,y_15.next⟩:TStructure)).bind fun y_39 =>
 some (.inl (y_39,addI s_1.2 1)))
 (some (.inr s_1.1))) ([],0)).bind fun r_42 =>
 some r_42

def laws_FnExactWeakenSet (aSet:(List TStructure)):Option (Bool) :=
 (laws_szStructureS aSet 1048576).bind fun y_1 =>
 cond (ltI y_1 0)
 (some true)
 ((laws_toStructureS aSet).bind fun y_5 =>
 (zdn y_5).bind fun y_8 =>
 (laws_toStructureS aSet).bind fun _ =>
 (zcy y_5).bind fun y_13 =>
 (laws_eqStructureS y_13 y_8).bind fun y_16 =>
 cond y_16
 ((laws_toStructureS aSet).bind fun _ =>
 (laws_eqStructureS y_5 y_5).bind fun y_22 =>
 cond y_22
 ((markO zal y_5 1).bind fun r_26 =>
 cond (ltI r_26.2 0)
 (some false)
 ((laws_eqStructureS y_13 y_8).bind fun y_45 =>
 cond y_45
 ((markO zal y_13 1).bind fun r_49 =>
 (laws_heldStructureS r_49.1 1).bind fun y_67 =>
 cond (ltI y_67 0)
 (some false)
 (cond (neI y_67 r_49.2)
 (some false)
 ((laws_toStructureS aSet).bind fun y_72 =>
 (zcy y_72).bind fun y_75 =>
 (laws_eqStructureS y_75 y_8).bind fun y_78 =>
 cond y_78
 ((laws_heldStructureS r_49.1 1).bind fun _ =>
 some true)
 (some false))))
 (some false)))
 (some false))
 (some false))

end Go.Ev


namespace Go.Ev
open Wf (wf)
open Sm (sm lg)
theorem znv {a:(List Int)} {left:Int} (hw:wf a) (hl:0≤left∧left≤1048576):SzOK (laws_szIntS a left) (sm a):=by
 unfold laws_szIntS
 have h:=(znl hw).1
 rw [zes (by omega) (by omega),zcu]
 by_cases h:left - (a.length:Int) < 0
 ·rw [if_pos h];exact ⟨-1,rfl,by omega,by omega,by omega⟩
 ·rw [if_neg h];exact ⟨_,rfl,by omega,fun _=>⟨by omega,fun _ _=>trivial⟩,by omega⟩
theorem szNode_ok {a:TNode} {left:Int} (hw:wf a) (hl:0≤left∧left≤1048576):SzOK (laws_szNode a left) (sm a):=(znv hw.1 hl).two fun n0 hn0=>(znv hw.2.1 hn0).last
theorem szNodeS_ok {a:(List TNode)} {left:Int} (hw:wf a) (hl:0≤left∧left≤1048576):SzOK (laws_szNodeS a left) (sm a):=by
 refine szRow laws_szNode hl (znl hw).1 (fun x hx l hl=>szNode_ok ((znl hw).2 x hx) hl) (fun i x l n hi hx hn=>?_) (fun l=>?_) (by unfold laws_szNodeS;rfl)
 ·simp only [zcu,zcv,hx,hn,Int.ofNat_lt,hi,if_true,Option.bind_some]
  split <;> rfl
 ·simp [zcu]
theorem zpq {a:TStructure} {left:Int} (hw:wf a) (hl:0≤left∧left≤1048576):SzOK (laws_szStructure a left) (sm a):=(szNodeS_ok hw.1 hl).two fun n0 hn0=>(znv hw.2 hn0).last
theorem znu {a:(List TStructure)} {left:Int} (hw:wf a) (hl:0≤left∧left≤1048576):SzOK (laws_szStructureS a left) (sm a):=by
 refine szRow laws_szStructure hl (znl hw).1 (fun x hx l hl=>zpq ((znl hw).2 x hx) hl) (fun i x l n hi hx hn=>?_) (fun l=>?_) (by unfold laws_szStructureS;rfl)
 ·simp only [zcu,zcv,hx,hn,Int.ofNat_lt,hi,if_true,Option.bind_some]
  split <;> rfl
 ·simp [zcu]
theorem znr {a:(List Int)} (h:sm a):laws_toIntS a=some a:=by
 refine toRow (fun x=>some x) (zlm (fun _ _=>rfl)) (sm_len h) (b:=8) (by omega) (fun i x y o hi hx hy ho=>?_) (fun o=>?_) (by unfold laws_toIntS;rfl)
 ·obtain ⟨q,hq⟩:=ho
  cases hy
  simp only [zcu,zcv,hx,hq,Int.ofNat_lt,hi,if_true,Option.bind_some,Int.toNat_natCast]
 ·simp [zcu]
theorem toNode_ok {a:TNode} (h:sm a):laws_toNode a=some a:=by
 unfold laws_toNode
 rw [znr h.1,znr h.2]
 rfl
theorem toNodeS_ok {a:(List TNode)} (h:sm a):laws_toNodeS a=some a:=by
 refine toRow (laws_toNode) (zlm (fun x hx=>toNode_ok (h.2 x hx))) (sm_len h) (b:=64) (by omega) (fun i x y o hi hx hy ho=>?_) (fun o=>?_) (by unfold laws_toNodeS;rfl)
 ·obtain ⟨q,hq⟩:=ho
  simp only [zcu,zcv,hx,hq,hy,Int.ofNat_lt,hi,if_true,Option.bind_some,Int.toNat_natCast]
 ·simp [zcu]
theorem zpo {a:TStructure} (h:sm a):laws_toStructure a=some a:=by
 unfold laws_toStructure
 rw [toNodeS_ok h.1,znr h.2]
 rfl
theorem znq {a:(List TStructure)} (h:sm a):laws_toStructureS a=some a:=by
 refine toRow (laws_toStructure) (zlm (fun x hx=>zpo (h.2 x hx))) (sm_len h) (b:=48) (by omega) (fun i x y o hi hx hy ho=>?_) (fun o=>?_) (by unfold laws_toStructureS;rfl)
 ·obtain ⟨q,hq⟩:=ho
  simp only [zcu,zcv,hx,hq,hy,Int.ofNat_lt,hi,if_true,Option.bind_some,Int.toNat_natCast]
 ·simp [zcu]
theorem zpd {a b:(List Int)} (h:lg a):laws_eqIntS a b=some (decide (a=b)):=by
 refine eqRow (lg_le h) (fun i x y hi hx hy=>?_) ?_ (by unfold laws_eqIntS;rfl)
 ·simp only [zcu,zry,zcv,hx,hy,Option.bind_some,Int.ofNat_lt,hi,if_true]
  by_cases he:x=y <;> simp [he]
 ·simp [zcu]
theorem eqNode_ok {a b:TNode} (h:lg a):laws_eqNode a b=some (decide (a=b)):=by
 unfold laws_eqNode
 rw [zpd h.1,zpd h.2]
 rcases a with ⟨a0,a1,a2,a3⟩
 rcases b with ⟨b0,b1,b2,b3⟩
 simp only [Option.bind_some,zai,zry,neS_dec,zek,TNode.mk.injEq]
 by_cases h0:a0=b0 <;> by_cases h1:a1=b1 <;> by_cases h2:a2=b2 <;> by_cases h3:a3=b3 <;> simp [h0,h1,h2,h3]
theorem eqNodeS_ok {a b:(List TNode)} (h:lg a):laws_eqNodeS a b=some (decide (a=b)):=by
 refine eqRow (lg_le h) (fun i x y hi hx hy=>?_) ?_ (by unfold laws_eqNodeS;rfl)
 ·simp only [zcu,eqNode_ok (lg_mem h hx),zai,zcv,hx,hy,Option.bind_some,Int.ofNat_lt,hi,if_true]
  by_cases he:x=y <;> simp [he]
 ·simp [zcu]
theorem zps {a b:TStructure} (h:lg a):laws_eqStructure a b=some (decide (a=b)):=by
 unfold laws_eqStructure
 rw [eqNodeS_ok h.1,zpd h.2]
 rcases a with ⟨a0,a1⟩
 rcases b with ⟨b0,b1⟩
 simp only [Option.bind_some,zai,zry,neS_dec,zek,TStructure.mk.injEq]
 by_cases h0:a0=b0 <;> by_cases h1:a1=b1 <;> simp [h0,h1]
theorem zjf {a b:(List TStructure)} (h:lg a):laws_eqStructureS a b=some (decide (a=b)):=by
 refine eqRow (lg_le h) (fun i x y hi hx hy=>?_) ?_ (by unfold laws_eqStructureS;rfl)
 ·simp only [zcu,zps (lg_mem h hx),zai,zcv,hx,hy,Option.bind_some,Int.ofNat_lt,hi,if_true]
  by_cases he:x=y <;> simp [he]
 ·simp [zcu]
end Go.Ev


namespace Go.Ev
theorem zis (x:Int) (k:Int) (hk:0≤k) (hb:k+zer x≤maxMark):(zdv x k).2=k+zer x:=by
 unfold zer maxMark at *
 unfold zdv
 have h0:addI k 1=k+1:=zap (by omega) (by omega)
 simp only
 omega
theorem zfk (xs:List Int) (k:Int) (hk:0≤k) (hb:k+zcx xs≤maxMark):(zae xs k).2=k+zcx xs:=zlh zis xs k hk hb
theorem zko {xs:List Int} {k0:Int} (hl:Sm.lg xs) (hk:0≤k0) (hb:k0+zcx xs≤maxMark):laws_heldIntS (zae xs k0).1 k0=some (zae xs k0).2:=by
 unfold laws_heldIntS
 have hlg:∀ x∈xs,Sm.lg x:=hl.2
 rw [zrq (ys:=(zae xs k0).1) (E:=zdv) (cnt:=zer) (xs:=xs) zis (fun i x k hx0 hi hx hk hb=>?_) (fun k=>by simp [zcu]) rfl (by have:=hl.1;omega) hk hb]
 ·rfl
 ·have e0:at? (zae xs k0).1 (i:Int)=some (zdv x k).1:=by rw [zcv];exact hx
  unfold zer maxMark at hb
  have h0:addI k 1=k+1:=zap (by omega) (by omega)
  have hc:ltI (i:Int) ((zae xs k0).1.length:Int)=true:=by simpa [ltI] using hi
  simp only [hc,e0,zdv,cond_true,cond_false,Option.bind_some,neI,decide_true,Bool.not_true,]
theorem zhu (x:TNode) (k:Int) (hk:0≤k) (hb:k+zda x≤maxMark):(zdj x k).2=k+zda x:=by
 unfold zda maxMark at *
 unfold zdj
 have h0:=zfk x.vars k (by omega) (by unfold maxMark;omega)
 have h1:=zfk x.reach ((zae x.vars k).2) (by omega) (by unfold maxMark;omega)
 have h2:addI ((zae x.reach ((zae x.vars k).2)).2) 1=((zae x.reach ((zae x.vars k).2)).2)+1:=zap (by omega) (by omega)
 have h3:addI (addI ((zae x.reach ((zae x.vars k).2)).2) 1) 1=(addI ((zae x.reach ((zae x.vars k).2)).2) 1)+1:=zap (by omega) (by omega)
 simp only
 omega
theorem zll (xs:List TNode) (k:Int) (hk:0≤k) (hb:k+zec xs≤maxMark):(zah xs k).2=k+zec xs:=zlh zhu xs k hk hb
theorem heldNodeS_ok {xs:List TNode} {k0:Int} (hl:Sm.lg xs) (hk:0≤k0) (hb:k0+zec xs≤maxMark):laws_heldNodeS (zah xs k0).1 k0=some (zah xs k0).2:=by
 unfold laws_heldNodeS
 have hlg:∀ x∈xs,Sm.lg x:=hl.2
 rw [zrq (ys:=(zah xs k0).1) (E:=zdj) (cnt:=zda) (xs:=xs) zhu (fun i x k hx0 hi hx hk hb=>?_) (fun k=>by simp [zcu]) rfl (by have:=hl.1;omega) hk hb]
 ·rfl
 ·have e0:at? (zah xs k0).1 (i:Int)=some (zdj x k).1:=by rw [zcv];exact hx
  unfold zda maxMark at hb
  have h0:=zfk x.vars k (by omega) (by unfold maxMark;omega)
  have w0:=zko (xs:=x.vars) (k0:=k) (hl.2 x hx0).1 (by omega) (by unfold maxMark;omega)
  have n0:ltI (zae x.vars k).2 0=false:=by simp only [ltI,decide_eq_false_iff_not];omega
  have h1:=zfk x.reach ((zae x.vars k).2) (by omega) (by unfold maxMark;omega)
  have w1:=zko (xs:=x.reach) (k0:=(zae x.vars k).2) (hl.2 x hx0).2 (by omega) (by unfold maxMark;omega)
  have n1:ltI (zae x.reach ((zae x.vars k).2)).2 0=false:=by simp only [ltI,decide_eq_false_iff_not];omega
  have h2:addI ((zae x.reach ((zae x.vars k).2)).2) 1=((zae x.reach ((zae x.vars k).2)).2)+1:=zap (by omega) (by omega)
  have h3:addI (addI ((zae x.reach ((zae x.vars k).2)).2) 1) 1=(addI ((zae x.reach ((zae x.vars k).2)).2) 1)+1:=zap (by omega) (by omega)
  have hc:ltI (i:Int) ((zah xs k0).1.length:Int)=true:=by simpa [ltI] using hi
  simp only [hc,e0,zdj,cond_true,cond_false,Option.bind_some,neI,decide_true,Bool.not_true,w0,n0,w1,n1]
theorem zfq (x:TStructure) (k:Int) (hk:0≤k) (hb:k+zbn x≤maxMark):(zbi x k).2=k+zbn x:=by
 unfold zbn maxMark at *
 unfold zbi
 have h0:=zll x.nodes k (by omega) (by unfold maxMark;omega)
 have h1:=zfk x.next ((zah x.nodes k).2) (by omega) (by unfold maxMark;omega)
 simp only
 omega
theorem zhb (xs:List TStructure) (k:Int) (hk:0≤k) (hb:k+zdc xs≤maxMark):(zal xs k).2=k+zdc xs:=zlh zfq xs k hk hb
theorem zml {xs:List TStructure} {k0:Int} (hl:Sm.lg xs) (hk:0≤k0) (hb:k0+zdc xs≤maxMark):laws_heldStructureS (zal xs k0).1 k0=some (zal xs k0).2:=by
 unfold laws_heldStructureS
 have hlg:∀ x∈xs,Sm.lg x:=hl.2
 rw [zrq (ys:=(zal xs k0).1) (E:=zbi) (cnt:=zbn) (xs:=xs) zfq (fun i x k hx0 hi hx hk hb=>?_) (fun k=>by simp [zcu]) rfl (by have:=hl.1;omega) hk hb]
 ·rfl
 ·have e0:at? (zal xs k0).1 (i:Int)=some (zbi x k).1:=by rw [zcv];exact hx
  unfold zbn maxMark at hb
  have h0:=zll x.nodes k (by omega) (by unfold maxMark;omega)
  have w0:=heldNodeS_ok (xs:=x.nodes) (k0:=k) (hl.2 x hx0).1 (by omega) (by unfold maxMark;omega)
  have n0:ltI (zah x.nodes k).2 0=false:=by simp only [ltI,decide_eq_false_iff_not];omega
  have h1:=zfk x.next ((zah x.nodes k).2) (by omega) (by unfold maxMark;omega)
  have w1:=zko (xs:=x.next) (k0:=(zah x.nodes k).2) (hl.2 x hx0).2 (by omega) (by unfold maxMark;omega)
  have n1:ltI (zae x.next ((zah x.nodes k).2)).2 0=false:=by simp only [ltI,decide_eq_false_iff_not];omega
  have hc:ltI (i:Int) ((zal xs k0).1.length:Int)=true:=by simpa [ltI] using hi
  simp only [hc,e0,zbi,cond_true,cond_false,Option.bind_some,neI,decide_true,Bool.not_true,w0,n0,w1,n1]
end Go.Ev


namespace Go.Ev
def small (n:Nat):Prop:=n≤4000000

theorem findE {α:Type} (p:α→Bool):∀ (xs:List α) (i:Nat),
 foldE (β:=Unit) (ρ:=Int ⊕ Unit) (fun _ i x=>if p x then some (.inr (.inl (i:Int))) else some (.inl ())) (fun _=>some (.inr ())) () i xs =
  some (match xs.findIdx? p with | some j=>.inl ((i+j:Nat):Int) | none=>.inr ())
 | [],i=>rfl
 | x :: xs,i=>by
  rw [foldE]
  by_cases h:p x=true
  ·simp [h,List.findIdx?_cons]
  ·simp only [h,if_false,Bool.false_eq_true]
   rw [findE p xs (i+1),List.findIdx?_cons]
   simp only [h,if_false,Bool.false_eq_true]
   cases xs.findIdx? p with
   | none=>rfl
   | some j=>simp only [Option.map_some,Option.some.injEq,Sum.inl.injEq];omega

theorem zeu (n lo hi:Int):zay n lo hi=some (decide (lo≤n∧n≤hi)):=by
 unfold zay
 by_cases h:lo≤n <;> simp [leI,ltI,h]
theorem zdz (n lo hi:Int):zbb n lo hi=some (decide (lo≤n∧n≤hi)):=by
 unfold zbb
 by_cases h:lo≤n <;> simp [leI,ltI,h]

theorem zqh (a:Int):zcd a=zbh a:=by
 unfold zcd zbh
 simp [zeu,zdz]
theorem zoo:∀ (n:Nat) (xs:List Int),xs.Nodup→(∀ x∈xs,0≤x∧x < n)→xs.length≤n
 | 0,xs,_,h=>by
  cases xs with
  | nil=>exact Nat.le_refl _
  | cons x xs=>have:=h x (List.mem_cons_self ..);omega
 | n+1,xs,hn,h=>by
  have h1:=zoo n (xs.erase (n:Int)) (hn.erase _) (fun x hx=>by
   have hx':=(hn.mem_erase_iff).1 hx
   have:=h x hx'.2
   have hne:=hx'.1
   omega)
  by_cases hm:(n:Int)∈xs
  ·rw [List.length_erase_of_mem hm] at h1;omega
  ·rw [List.erase_of_not_mem hm] at h1;omega

theorem at_in {xs:List Int} {c:Int} (h:0≤c∧c < (xs.length:Int)):at? xs c=some (xs.getD c.toNat 0):=by
 unfold at?
 rw [if_pos h.1]
 have:c.toNat < xs.length:=by omega
 simp [List.getD,List.getElem?_eq_getElem this]
structure Seen (next out:List Int):Prop where
 nd:out.Nodup
 rng:∀ x∈out,0≤x∧x < (next.length:Int)
theorem Seen.len {next out:List Int} (h:Seen next out):out.length≤next.length:=zoo _ _ h.nd h.rng
theorem Seen.push {next out:List Int} (h:Seen next out) {c:Int} (hc:c ∉ out) (hr:0≤c∧c < (next.length:Int)):Seen next (out ++ [c]) :=
 ⟨by rw [List.nodup_append];exact ⟨h.nd,by simp,fun a ha b hb=>by simp at hb;subst hb;rintro rfl;exact hc ha⟩,fun x hx=>by
  rcases List.mem_append.1 hx with hx | hx
  ·exact h.rng x hx
  ·simp at hx;subst hx;exact hr⟩

theorem indexF {α:Type} (xs:List α) (f:α→Option Bool) (p:α→Bool) (hf:∀ x∈xs,f x=some (p x)) (hl:small xs.length) :
 iter (ρ:=(Int) ⊕ (Unit)) (fun s_1:Int =>
  cond (ltI s_1 (xs.length:Int))
   ((at? xs s_1).bind fun e_12 =>
    (f e_12).bind fun y_17 =>
     cond y_17
      (some (.inr (.inl s_1)))
      (some (.inl (addI s_1 1))))
   (some (.inr (.inr ())))) 0=some (match xs.findIdx? p with | some j=>.inl (j:Int) | none=>.inr ()):=by
 rw [iter_list xs (fun (_:Unit) i=>i) (fun _ i x=>if p x=true then some (.inr (.inl (i:Int))) else some (.inl ())) (fun _=>some (.inr ())) (fun b i x hx=>?_) (fun b=>?_) (),findE]
 ·simp
 ·have hlt:=(List.getElem?_eq_some_iff.1 hx).1
  unfold small at hl
  simp only [zcv,hx,Option.bind_some,ltI,zai,hf x (List.mem_of_getElem? hx)]
  rw [if_pos (by omega),zap (by omega) (by omega)]
  cases p x <;> simp
 ·simp [ltI]
theorem zjh {α:Type} (xs:List α) (p:α→Bool):leI 0 (match xs.findIdx? p with | some j=>(j:Int) | none=>-1)=xs.any p:=by
 cases h:xs.findIdx? p with
 | none =>
  rw [List.findIdx?_eq_none_iff] at h
  have:xs.any p=false:=List.any_eq_false.2 fun x hx=>by simp [h x hx]
  rw [this];rfl
 | some j =>
  rw [List.findIdx?_eq_some_iff_getElem] at h
  obtain ⟨hj,hp,_⟩:=h
  have:xs.any p=true:=List.any_eq_true.2 ⟨_,List.getElem_mem hj,hp⟩
  rw [this]
  simp [leI]
theorem znf (xs:List Int) (f:Int→Option Bool) (p:Int→Bool) (hf:∀ x∈xs,f x=some (p x)) (hl:small xs.length):zbd xs f=some (xs.any p):=by
 unfold zbd zdq
 rw [indexF xs f p hf hl,← zjh]
 cases xs.findIdx? p <;> rfl
theorem zne (xs:List TStructure) (f:TStructure→Option Bool) (p:TStructure→Bool) (hf:∀ x∈xs,f x=some (p x)) (hl:small xs.length):zas xs f=some (xs.any p):=by
 unfold zas zar
 rw [indexF xs f p hf hl,← zjh]
 cases xs.findIdx? p <;> rfl
theorem zbq {n b:Nat} (hn:n≤4000000) (hb:b≤1000):room n b=some ():=by
 unfold room maxBytes
 have:n * (b+1)≤4000000 * 1001:=Nat.mul_le_mul hn (by omega)
 rw [if_pos (by omega)]
def push (acc:List Int) (x:Int):List Int:=if x∈acc then acc else acc ++ [x]
def Tot {α:Type} (o:Option α) (Q:α→Prop):Prop:=∃ a,o=some a∧Q a
theorem Tot.ret {α:Type} {a:α} {Q:α→Prop} (h:Q a):Tot (some a) Q:=⟨a,rfl,h⟩
theorem Tot.bind {α β:Type} {o:Option α} {f:α→Option β} {P:α→Prop} {Q:β→Prop} (h:Tot o P) (hf:∀ a,P a→Tot (f a) Q):Tot (o.bind f) Q:=by
 obtain ⟨a,rfl,hP⟩:=h
 exact hf a hP
theorem Tot.mono {α:Type} {o:Option α} {P Q:α→Prop} (h:Tot o P) (hq:∀ a,P a→Q a):Tot o Q:=by
 obtain ⟨a,h1,h2⟩:=h
 exact ⟨a,h1,hq a h2⟩
theorem Tot.eq {α:Type} {o:Option α} {a:α} (h:Tot o (· = a)):o=some a:=by
 obtain ⟨b,h1,rfl⟩:=h
 exact h1
theorem Tot.of {α:Type} {o:Option α} {a:α} {Q:α→Prop} (h:o=some a) (hq:Q a):Tot o Q:=⟨a,h,hq⟩
theorem Tot.loop {σ ρ:Type} {step:σ→Option (σ ⊕ ρ)} {Q:ρ→Prop} (I:Nat→σ→Prop) (n:Nat) {s:σ} (h0:I 0 s)
 (h:∀ i s,I i s→i≤n→Tot (step s) (Sum.elim (fun s'=>i < n∧I (i+1) s') Q)):Tot (iter step s) Q:=by
 have key:∀ (k i:Nat) (s:σ),I i s→i+k=n→Tot (iter step s) Q:=by
  intro k
  induction k with
  | zero =>
   intro i s hI hk
   obtain ⟨o,ho,hq⟩:=h i s hI (by omega)
   cases o with
   | inl s'=>exact absurd hq.1 (by omega)
   | inr r=>exact ⟨r,zfb ho,hq⟩
  | succ k ih =>
   intro i s hI hk
   obtain ⟨o,ho,hq⟩:=h i s hI (by omega)
   cases o with
   | inl s'=>rw [zhd ho];exact ih (i+1) s' hq.2 (by omega)
   | inr r=>exact ⟨r,zfb ho,hq⟩
 exact key n 0 s h0 (by omega)
theorem loop_flat {α γ σ:Type} (S:List γ→Int→σ) (lo:Int) (xs:List α) (g:α→List γ) {acc:List γ} {step:σ→Option (σ ⊕ List γ)}
 (h:∀ (i:Nat) x b,xs[i]?=some x→b.length+(g x).length≤acc.length+(xs.flatMap g).length→step (S b (lo+i))=some (.inl (S (b ++ g x) (lo+i+1))))
 (he:∀ b,step (S b (lo+xs.length))=some (.inr b)):iter step (S acc lo)=some (acc ++ xs.flatMap g):=by
 have key:∀ (suf:List α) (i:Nat) (b:List γ),xs.drop i=suf→i+suf.length=xs.length→b.length+(suf.flatMap g).length=acc.length+(xs.flatMap g).length →
  iter step (S b (lo+i))=some (b ++ suf.flatMap g):=by
  intro suf
  induction suf with
  | nil =>
   intro i b _ hi _
   simp only [List.length_nil,Nat.add_zero] at hi
   subst hi
   rw [zfb (he b)];simp
  | cons x suf ih =>
   intro i b hd hi hb
   have hx:xs[i]?=some x:=by
    have:=congrArg (fun l=>l[0]?) hd
    simpa using this
   have hd2:xs.drop (i+1)=suf:=by
    have:=congrArg List.tail hd
    simpa using this
   simp only [List.length_cons] at hi
   simp only [List.flatMap_cons,List.length_append] at hb
   rw [zhd (h i x b hx (by omega))]
   have:=ih (i+1) (b ++ g x) hd2 (by omega) (by simp only [List.length_append];omega)
   rw [show lo+(i:Int)+1=lo+((i+1:Nat):Int) by omega,this]
   simp
 have:=key xs 0 acc rfl (by simp) rfl
 simpa using this
def Cells (next:List Int):Prop:=∀ x∈next,-1≤x∧x < (next.length:Int)
def lastI (xs:List Int):Int:=xs.getD (xs.length - 1) 0
theorem zpf (xs:List Int) (h:small xs.length):zcc xs=some xs:=by
 unfold zcc zlo
 rw [zbq h (by omega)]
 rfl
theorem zde {α:Type} {xs:List α} {i:Nat} (h:i < xs.length):xs.take (i+1)=xs.take i ++ [xs[i]]:=by simp
theorem Tot.flat {α γ σ:Type} (S:List γ→Int→σ) (lo:Int) (xs:List α) (g:α→List γ) {acc:List γ} {step:σ→Option (σ ⊕ List γ)} {s:σ} {Q:List γ→Prop} (hs:s=S acc lo) (hQ:Q (acc ++ xs.flatMap g))
 (h:∀ (i:Nat) x b,xs[i]?=some x→b.length+(g x).length≤acc.length+(xs.flatMap g).length→Tot (step (S b (lo+i))) (· = .inl (S (b ++ g x) (lo+i+1))))
 (he:∀ b,Tot (step (S b (lo+xs.length))) (· = .inr b)):Tot (iter step s) Q:=by
 subst hs
 exact Tot.of (loop_flat S lo xs g (fun i x b hx hb=>(h i x b hx hb).eq) fun b=>(he b).eq) hQ
def t3 (b:Bool):Int:=if b then 2 else 0
theorem zkr {α β:Type} (xs:List α) (f:α→List β) (n:Nat) (h:∀ x∈xs,(f x).length=n):(xs.flatMap f).length=xs.length * n:=by
 induction xs with
 | nil=>simp
 | cons x xs ih =>
  rw [List.flatMap_cons,List.length_append,h x (List.mem_cons_self ..),ih fun y hy=>h y (List.mem_cons_of_mem _ hy),List.length_cons,Nat.add_mul]
  omega
def firstR {ρ υ:Type} (o:Option ρ) (u:υ):ρ ⊕ υ:=match o with | some r=>.inl r | none=>.inr u
theorem Tot.first {ρ υ:Type} {step:Int→Option (Int ⊕ (ρ ⊕ υ))} {Q:ρ ⊕ υ→Prop} (n:Nat) (F:Nat→Option ρ) (u:υ)
 (h:∀ i:Nat,i < n→Tot (step i) (· = (match F i with | none=>.inl ((i:Int)+1) | some r=>.inr (.inl r)))) (he:Tot (step n) (· = .inr (.inr u)))
 (hQ:Q (firstR ((List.range n).findSome? F) u)):Tot (iter step 0) Q:=by
 refine Tot.loop (fun i s=>s=(i:Int)∧∀ j,j < i→F j=none) n ⟨rfl,fun j hj=>absurd hj (Nat.not_lt_zero _)⟩ fun i s hI hi=>?_
 obtain ⟨rfl,hI⟩:=hI
 by_cases hlt:i < n
 ·refine (h i hlt).mono fun o ho=>?_
  subst ho
  cases hF:F i with
  | none =>
   refine ⟨hlt,rfl,fun j hj=>?_⟩
   by_cases hji:j=i
   ·subst hji;exact hF
   ·exact hI j (by omega)
  | some r =>
   have:(List.range n).findSome? F=some r:=by
    rw [List.findSome?_eq_some_iff]
    refine ⟨List.range i,i,(List.range' (i+1) (n - i - 1)),?_,hF,fun j hj=>hI j (List.mem_range.1 hj)⟩
    rw [List.range_eq_range',List.range_eq_range',← List.range'_succ,show n - i - 1+1=n - i by omega]
    have:=@List.range'_append 0 i (n - i) 1
    simp only [Nat.one_mul,Nat.zero_add] at this
    rw [this]
    congr 1
    omega
   rw [this] at hQ
   exact hQ
 ·have:i=n:=by omega
  subst this
  refine he.mono fun o ho=>?_
  subst ho
  have:(List.range i).findSome? F=none:=by
   rw [List.findSome?_eq_none_iff]
   exact fun j hj=>hI j (List.mem_range.1 hj)
  rw [this] at hQ
  exact hQ
theorem zmz {ρ:Type} (p:Nat→Bool) (r:ρ):∀ xs:List Nat,xs.findSome? (fun i=>if p i then none else some r)=if xs.all p then none else some r
 | []=>rfl
 | x :: xs=>by
  rw [List.findSome?_cons,zmz p r xs]
  cases h:p x <;> simp [h]
theorem Tot.all {ρ υ:Type} {step:Int→Option (Int ⊕ (ρ ⊕ υ))} {Q:ρ ⊕ υ→Prop} (n:Nat) (p:Nat→Bool) (r:ρ) (u:υ)
 (h:∀ i:Nat,i < n→Tot (step i) (· = (if p i then .inl ((i:Int)+1) else .inr (.inl r)))) (he:Tot (step n) (· = .inr (.inr u)))
 (hQ:Q (if (List.range n).all p then .inr u else .inl r)):Tot (iter step 0) Q:=by
 refine Tot.first n (fun i=>if p i then none else some r) u (fun i hi=>?_) he ?_
 ·refine (h i hi).mono fun o ho=>?_
  rw [ho]
  cases p i <;> rfl
 ·rw [zmz]
  cases h:(List.range n).all p <;> simpa [h,firstR] using hQ

def wB (a b:Int):Bool:=decide (0≤a∧a≤2) && (decide (0≤b∧b≤2) && (decide (b=1) || decide (a=b)))
def listW (a b:List Int):Bool:=decide (a.length=b.length) && (List.range a.length).all fun i=>wB (a.getD i 0) (b.getD i 0)
theorem zrt {α:Type} {xs:List α} {i:Nat} (h:i < xs.length) (d:α):at? xs (i:Int)=some (xs.getD i d):=by
 rw [zcv,List.getElem?_eq_getElem h];simp [List.getD,h]
def zN:TNode:=⟨[],[],0,0⟩
def nodeW (x y:TNode):Bool:=listW x.vars y.vars && (listW x.reach y.reach && (wB x.shared y.shared && wB x.many y.many))
def okN (x:TNode):Prop:=small x.vars.length∧small x.reach.length
def nextV (s:TStructure) (i j:Int):Int :=
 if 0≤i∧i≤(s.nodes.length:Int) - 1 then if 0≤j∧j≤(s.nodes.length:Int) - 1 then if s.next.length=s.nodes.length * s.nodes.length then s.next.getD (i * s.nodes.length+j).toNat 0 else 1 else 1 else 1
theorem zqu {n:Nat} (h:small n):n * n≤16000000000000:=Nat.le_trans (Nat.mul_le_mul h h) (by decide)
theorem place_in {n:Nat} {i j:Int} (hi:0≤i∧i≤(n:Int) - 1) (hj:0≤j∧j≤(n:Int) - 1):0≤i * n∧i * n+j < ((n * n:Nat):Int):=by
 have h1:i * n≤((n:Int) - 1) * n:=Int.mul_le_mul_of_nonneg_right hi.2 (by omega)
 have h2:0≤i * (n:Int):=Int.mul_nonneg hi.1 (by omega)
 rw [Int.sub_mul,Int.one_mul] at h1
 have h3:((n * n:Nat):Int)=(n:Int) * n:=by simp
 omega
theorem zib (s:TStructure) (i j:Int) (hs:small s.nodes.length):zcg s i j=some (nextV s i j):=by
 unfold zcg nextV
 have hq:=zqu hs
 have hs':=hs
 unfold small at hs'
 rw [zdz,zdz,zes (by omega) (by omega)]
 have h3:((s.nodes.length * s.nodes.length:Nat):Int)=(s.nodes.length:Int) * s.nodes.length:=by simp
 rw [ziz (by omega) (by omega)]
 simp only [Option.bind_some,zai,neI,zek]
 by_cases hi:0≤i∧i≤(s.nodes.length:Int) - 1
 ·rw [if_pos hi,if_pos hi]
  by_cases hj:0≤j∧j≤(s.nodes.length:Int) - 1
  ·rw [if_pos hj,if_pos hj]
   by_cases hn:s.next.length=s.nodes.length * s.nodes.length
   ·obtain ⟨p1,p2⟩:=place_in hi hj
    rw [if_pos (by omega),if_pos hn,ziz (by omega) (by omega),zap (by omega) (by omega),at_in (by omega)]
    rfl
   ·rw [if_neg (by omega),if_neg hn]
  ·rw [if_neg hj,if_neg hj]
 ·rw [if_neg hi,if_neg hi]
theorem zoz (s:TStructure) (i j:Int) (hs:small s.nodes.length):zdb s i j=some (nextV s i j):=by
 rw [← zib s i j hs]
 unfold zdb zcg zam
 simp only [zeu,zdz,Option.bind_some]
def roundB (s t:TStructure) (to:List Int) (j:Nat):Bool :=
 wB (nextV s ((to.length:Int) - 1) j) (nextV t (lastI to) (to.getD j 0)) && (wB (nextV s j ((to.length:Int) - 1)) (nextV t (to.getD j 0) (lastI to)) && !(decide (j+1 < to.length) && (decide (to.getD j 0=lastI to) && !decide ((t.nodes.getD (lastI to).toNat zN).many=1))))
def fitB (s t:TStructure) (to:List Int):Bool:=nodeW (s.nodes.getD (to.length - 1) zN) (t.nodes.getD (lastI to).toNat zN) && (List.range to.length).all (roundB s t to)
def okS (s:TStructure):Prop:=small s.nodes.length∧∀ n∈s.nodes,okN n
theorem at_in' {α:Type} {xs:List α} {c:Int} (h:0≤c∧c < (xs.length:Int)) (d:α):at? xs c=some (xs.getD c.toNat d):=by
 unfold at?
 rw [if_pos h.1]
 have:c.toNat < xs.length:=by omega
 simp [List.getD,List.getElem?_eq_getElem this]
def rngT (t:TStructure) (to:List Int):Prop:=∀ x∈to,0≤x∧x < (t.nodes.length:Int)
def pre (s t:TStructure) (to:List Int):Prop:=to.length≤s.nodes.length∧rngT t to∧∀ i,i < to.length→fitB s t (to.take (i+1))=true
open Wf (wf)
open Sm (sm lg)
theorem cntI_len' (xs:List Int):zcx xs=xs.length:=by
 unfold zcx totC
 induction xs with
 | nil=>rfl
 | cons x xs ih =>
  rw [List.map_cons,List.sum_cons,ih,List.length_cons]
  show 1+xs.length=xs.length+1
  omega
theorem cnt_nodes {xs:List TNode} (h:sm xs):zec xs≤2200000000000:=by
 have:=totC_le zda 2097154 xs fun x hx=>by
  have hx:=h.2 x hx
  unfold zda
  rw [cntI_len',cntI_len']
  have:=hx.1.1
  have:=hx.2.1
  omega
 refine Nat.le_trans this (Nat.le_trans (Nat.mul_le_mul_right _ h.1) (by decide))
theorem cnt_str {s:TStructure} (h:sm s):zec s.nodes+zcx s.next≤2200001048576:=by
 have h1:=cnt_nodes h.1
 rw [cntI_len']
 have:=h.2.1
 omega
open Wf (wf)
open Sm (sm lg)
open Wf (wf)
open Sm (sm lg)
open Wf (wf)
open Sm (sm lg)
def truthsB (xs:List Int):Bool:=xs.all fun x=>decide (0≤x∧x≤2)
theorem all_range {α:Type} (xs:List α) (p:α→Bool) (d:α):(List.range xs.length).all (fun i=>p (xs.getD i d))=xs.all p:=by
 have h:(List.range xs.length).map (fun i=>xs.getD i d)=xs:=by
  apply List.ext_getElem
  ·simp
  ·intro i h1 h2
   simp [List.getD,h2]
 have h2:((List.range xs.length).map (fun i=>xs.getD i d)).all p=(List.range xs.length).all (fun i=>p (xs.getD i d)):=by rw [List.all_map];rfl
 rw [h] at h2
 exact h2.symm
theorem zki (xs:List Int) (h:small xs.length):zcl xs=some (truthsB xs):=by
 unfold small at h
 unfold zcl
 refine Tot.eq (Tot.bind (P:=(· = if truthsB xs then .inr () else .inl ())) (Tot.all xs.length (fun i=>decide (0≤xs.getD i 0∧xs.getD i 0≤2)) () () (fun i hi=>?_) ?_ ?_) fun r hr=>?_)
 ·simp only [ltI,zai,zrt hi 0,Option.bind_some,zbh,zdz]
  rw [if_pos (by omega),zap (by omega) (by omega)]
  by_cases hc:0≤xs.getD i 0∧xs.getD i 0≤2
  ·rw [if_pos hc,if_pos (by simpa using hc)];exact Tot.ret rfl
  ·rw [if_neg hc,if_neg (by simpa using hc)];exact Tot.ret rfl
 ·simp only [ltI,zai]
  rw [if_neg (by omega)]
  exact Tot.ret rfl
 ·rw [all_range xs (fun x=>decide (0≤x∧x≤2)) 0]
  rfl
 ·subst hr
  cases truthsB xs <;> exact Tot.ret rfl
theorem zkn (xs:List Int) (h:small xs.length):zco xs=some (truthsB xs):=by
 unfold zco
 rw [znf xs (fun x0=>zdg x0) (fun x=>!decide (0≤x∧x≤2)) (fun x _=>by unfold zdg zcd;rw [zeu];rfl) h]
 simp only [Option.bind_some,Option.some.injEq,notB,truthsB]
 rw [List.not_any_eq_all_not]
 congr 1
 funext x
 simp
def nodeOkB (vars:Int) (x:TNode):Bool:=decide ((x.vars.length:Int)=vars) && (decide ((x.reach.length:Int)=vars) && (truthsB x.vars && (truthsB x.reach && (decide (0≤x.shared∧x.shared≤2) && decide (0≤x.many∧x.many≤1)))))
def isStrB (vars:Int) (s:TStructure):Bool:=decide (1≤vars∧vars≤4) && (decide (s.nodes.length≤10) && (decide (s.next.length=s.nodes.length * s.nodes.length) && (truthsB s.next && s.nodes.all (nodeOkB vars))))
structure shortS (s:TStructure):Prop where
 n:small s.nodes.length
 x:small s.next.length
 e:∀ y∈s.nodes,okN y
theorem shortS.ok {s:TStructure} (h:shortS s):okS s:=⟨h.n,h.e⟩
theorem zem {s:TStructure} (h:sm s):shortS s:=⟨by have:=h.1.1;unfold small;omega,by have:=h.2.1;unfold small;omega,fun y hy=>⟨by have:=(h.1.2 y hy).1.1;unfold small;omega,by have:=(h.1.2 y hy).2.1;unfold small;omega⟩⟩
theorem zgg (vars:Int) (s:TStructure) (h:shortS s):zca vars s=some (isStrB vars s):=by
 have hn:=h.n
 have hq:=zqu hn
 unfold small at hn
 unfold zca
 refine Tot.eq (Tot.bind (P:=(· = if s.nodes.all (nodeOkB vars) then .inr () else .inl ())) (Tot.all s.nodes.length (fun i=>nodeOkB vars (s.nodes.getD i zN)) () () (fun i hi=>?_) ?_ ?_) fun r hr=>?_)
 ·have hm:s.nodes.getD i zN∈s.nodes:=by simp [List.getD,hi]
  have ho:=h.e _ hm
  simp only [ltI,zai,zrt hi zN,Option.bind_some]
  rw [if_pos (by omega),zap (by omega) (by omega)]
  generalize s.nodes.getD i zN=y at *
  simp only [neI,zek,zki _ ho.1,zki _ ho.2,zbh,zdz,Option.bind_some,zai]
  unfold nodeOkB
  by_cases h1:(y.vars.length:Int)=vars
  ·rw [if_pos h1,decide_eq_true h1]
   by_cases h2:(y.reach.length:Int)=vars
   ·rw [if_pos h2,decide_eq_true h2]
    cases truthsB y.vars <;> cases truthsB y.reach <;> try exact Tot.ret rfl
    simp only [cond_true,Bool.true_and]
    by_cases h3:0≤y.shared∧y.shared≤2
    ·rw [if_pos h3,decide_eq_true h3]
     by_cases h4:0≤y.many∧y.many≤1
     ·rw [if_pos h4,decide_eq_true h4];exact Tot.ret rfl
     ·rw [if_neg h4,decide_eq_false h4];exact Tot.ret rfl
    ·rw [if_neg h3,decide_eq_false h3];exact Tot.ret rfl
   ·rw [if_neg h2,decide_eq_false h2];exact Tot.ret rfl
  ·rw [if_neg h1,decide_eq_false h1];exact Tot.ret rfl
 ·simp only [ltI,zai]
  rw [if_neg (by omega)]
  exact Tot.ret rfl
 ·rw [all_range s.nodes (nodeOkB vars) zN]
 ·subst hr
  have h3:((s.nodes.length * s.nodes.length:Nat):Int)=(s.nodes.length:Int) * s.nodes.length:=by simp
  unfold isStrB
  cases hall:s.nodes.all (nodeOkB vars) with
  | false=>simp only [Bool.and_false];exact Tot.ret rfl
  | true =>
   simp only [if_true,Sum.elim_inr,zdz,Option.bind_some,zai,leI,eqI,zki _ h.x,Bool.and_true]
   rw [ziz (by omega) (by omega)]
   by_cases h1:1≤vars∧vars≤4
   ·rw [if_pos h1,decide_eq_true h1,Bool.true_and]
    by_cases h2:s.nodes.length≤10
    ·rw [if_pos (by omega),decide_eq_true h2,Bool.true_and]
     by_cases h4:s.next.length=s.nodes.length * s.nodes.length
     ·rw [if_pos (by omega),decide_eq_true h4,Bool.true_and];exact Tot.ret rfl
     ·rw [if_neg (by omega),decide_eq_false h4];exact Tot.ret rfl
    ·rw [if_neg (by omega),decide_eq_false h2];exact Tot.ret rfl
   ·rw [if_neg h1,decide_eq_false h1];exact Tot.ret rfl
theorem zmn (xs:List TNode) (f:TNode→Option Bool) (p:TNode→Bool) (hf:∀ x∈xs,f x=some (p x)) (hl:small xs.length):zbp xs f=some (xs.any p):=by
 unfold zbp zdi
 rw [indexF xs f p hf hl,← zjh]
 cases xs.findIdx? p <;> rfl
theorem zgi (vars:Int) (s:TStructure) (h:shortS s):zce vars s=some (isStrB vars s):=by
 have hn:=h.n
 have hq:=zqu hn
 unfold small at hn
 have h3:((s.nodes.length * s.nodes.length:Nat):Int)=(s.nodes.length:Int) * s.nodes.length:=by simp
 have hc:=zmn s.nodes (fun x0=>zcr x0 vars) (fun y=>!nodeOkB vars y) (fun y hy=>by
  have ho:=h.e y hy
  unfold zcr nodeOkB
  simp only [neI,zek,zkn _ ho.1,zkn _ ho.2,zcd,zeu,Option.bind_some,zai]
  by_cases h1:(y.vars.length:Int)=vars
  ·rw [if_pos h1,decide_eq_true h1]
   by_cases h2:(y.reach.length:Int)=vars
   ·rw [if_pos h2,decide_eq_true h2]
    cases truthsB y.vars <;> cases truthsB y.reach <;> try rfl
    simp only [cond_true,Bool.true_and]
    by_cases h3:0≤y.shared∧y.shared≤2
    ·rw [if_pos h3,decide_eq_true h3]
     by_cases h4:y.many=0
     ·rw [if_pos h4];simp [h4]
     ·rw [if_neg h4]
      by_cases h5:y.many=1
      ·simp [h5]
      ·have:¬ (0≤y.many∧y.many≤1):=by omega
       simp [h5,this]
    ·rw [if_neg h3,decide_eq_false h3];rfl
   ·rw [if_neg h2,decide_eq_false h2];rfl
  ·rw [if_neg h1,decide_eq_false h1];rfl) h.n
 unfold zce isStrB
 simp only [zeu,Option.bind_some,zai,ltI,neI,zek,zkn _ h.x]
 rw [ziz (by omega) (by omega)]
 by_cases h1:1≤vars∧vars≤4
 ·rw [if_pos h1,decide_eq_true h1,Bool.true_and]
  by_cases h2:s.nodes.length≤10
  ·rw [if_neg (by omega),decide_eq_true h2,Bool.true_and]
   by_cases h4:s.next.length=s.nodes.length * s.nodes.length
   ·rw [if_pos (by omega),decide_eq_true h4,Bool.true_and]
    cases truthsB s.next with
    | false=>rfl
    | true =>
     rw [cond_true,hc]
     simp only [Option.bind_some,notB,Bool.true_and,Option.some.injEq]
     rw [List.not_any_eq_all_not]
     congr 1
     funext y
     simp
   ·rw [if_neg (by omega),decide_eq_false h4];rfl
  ·rw [if_pos (by omega),decide_eq_false h2];rfl
 ·rw [if_neg h1,decide_eq_false h1];rfl
theorem copyNode (y:TNode) (h:okN y):zbz y=some y:=by
 have h1:=h.1
 have h2:=h.2
 unfold small at h1 h2
 unfold zbz
 simp only [List.length_nil,Nat.zero_add]
 rw [zbq (by omega) (by omega),Option.bind_some,zbq (by omega) (by omega)]
 rfl
theorem ownNode (y:TNode) (h:okN y):zcw y=some y:=by
 unfold zcw
 rw [zpf _ h.1,Option.bind_some,zpf _ h.2]
 rfl
theorem zlb (s:TStructure) (h:shortS s):zbg s=some s:=by
 have hn:=h.n
 have hx:=h.x
 unfold small at hn hx
 unfold zbg
 simp only [List.length_nil,Nat.zero_add]
 rw [zbq (by omega) (by omega),Option.bind_some]
 refine Tot.eq (Tot.bind (P:=(· = s.nodes)) (Tot.loop (fun i q=>q=((i:Int),s.nodes.take i)) s.nodes.length (by simp) fun i q hI hi=>?_) fun r hr=>by subst hr;exact Tot.ret rfl)
 subst hI
 by_cases hlt:i < s.nodes.length
 ·simp only [ltI,zai,zcv,List.getElem?_eq_getElem hlt,Option.bind_some,copyNode _ (h.e _ (List.getElem_mem hlt)),List.length_take,List.length_singleton]
  rw [if_pos (by omega),zbq (by omega) (by omega),Option.bind_some,zap (by omega) (by omega)]
  exact Tot.ret ⟨hlt,by rw [zde hlt];rfl⟩
 ·simp only [ltI,zai]
  rw [if_neg (by omega)]
  exact Tot.ret (List.take_of_length_le (by omega))
theorem zoy (s:TStructure) (h:shortS s):zba s=some s:=by
 have hn:=h.n
 unfold small at hn
 unfold zba
 rw [zpf _ h.x,Option.bind_some]
 refine Tot.eq (Tot.bind (P:=(· = s.nodes)) (Tot.loop (fun i q=>q=((i:Int),s.nodes.take i)) s.nodes.length (by simp) fun i q hI hi=>?_) fun r hr=>by subst hr;exact Tot.ret rfl)
 subst hI
 by_cases hlt:i < s.nodes.length
 ·simp only [ltI,zai,zcv,List.getElem?_eq_getElem hlt,Option.bind_some,ownNode _ (h.e _ (List.getElem_mem hlt)),List.length_take,List.length_singleton]
  rw [if_pos (by omega),zbq (by omega) (by omega),Option.bind_some,zap (by omega) (by omega)]
  exact Tot.ret ⟨hlt,by rw [zde hlt];rfl⟩
 ·simp only [ltI,zai]
  rw [if_neg (by omega)]
  exact Tot.ret (List.take_of_length_le (by omega))
open Wf (wf)
open Sm (sm lg)
def frm (n:Nat) (t:Int) (i:Nat):Int:=if i=n then t else (i:Int)
open Wf (wf)
open Sm (sm lg)
structure Foc (s:TStructure) (b:Int) (ts:List Int):Prop where
 sh:shortS s
 n10:s.nodes.length≤10
 sq:s.next.length=s.nodes.length * s.nodes.length
 b:0≤b∧b < (s.nodes.length:Int)
 t:∀ t∈ts,0≤t∧t < (s.nodes.length:Int)
 l:ts.length≤10
def varsF (s:TStructure):Int:=match s.nodes with | []=>0 | x :: _=>(x.vars.length:Int)
theorem zit (s:TStructure):zcp s=some (varsF s):=by
 unfold zcp varsF
 cases h:s.nodes with
 | nil=>rfl
 | cons x xs =>
  simp only [eqI,zai]
  rw [if_neg (by simp only [List.length_cons];omega),show (0:Int)=((0:Nat):Int) from rfl,zcv]
  rfl
theorem zgs:zcn=zcp:=rfl
end Go.Ev


namespace Go.Ev
open Wf (wf)
open Sm (sm lg)

structure okB (s:TStructure):Prop where
 sh:shortS s
 v:1≤varsF s∧varsF s≤4
 n:s.nodes.length≤10
 z:1≤s.nodes.length
 e:∀ x∈s.nodes,(x.vars.length:Int)=varsF s∧(x.reach.length:Int)=varsF s
theorem okB_of {s:TStructure} (h:shortS s) (hs:isStrB (varsF s) s=true) (h0:¬ s.nodes.length=0):okB s:=by
 unfold isStrB at hs
 simp only [Bool.and_eq_true,decide_eq_true_eq,List.all_eq_true] at hs
 refine ⟨h,hs.1,hs.2.1,by omega,fun x hx=>?_⟩
 have:=hs.2.2.2.2 x hx
 unfold nodeOkB at this
 simp only [Bool.and_eq_true,decide_eq_true_eq] at this
 exact ⟨this.1,this.2.1⟩
theorem zgl {s:TStructure} {i:Int} (h:0≤i∧i < (s.nodes.length:Int)):s.nodes.getD i.toNat zN∈s.nodes:=by
 have:i.toNat < s.nodes.length:=by omega
 simp [List.getD,this]

def predV (s:TStructure) (k i:Int):Int :=
 if k≤varsF s - 1 then (s.nodes.getD i.toNat zN).vars.getD k.toNat 0 else if k≤2 * varsF s - 1 then (s.nodes.getD i.toNat zN).reach.getD (k - varsF s).toNat 0 else (s.nodes.getD i.toNat zN).shared
theorem l13At_in {l:List Int} {k:Int} (hl:small l.length) (h:0≤k∧k < (l.length:Int)):zfj l k=some (l.getD k.toNat 0):=by
 unfold small at hl
 unfold zfj
 rw [zdz,zes (by omega) (by omega)]
 simp only [Option.bind_some,zai]
 rw [if_pos (by omega),at_in' h 0]
 rfl
theorem spec_pred {s:TStructure} (hs:okB s) {k i:Int} (hi:0≤i∧i < (s.nodes.length:Int)) (hk:0≤k∧k≤2 * varsF s):zcs s k i=some (predV s k i):=by
 have hv:=hs.v
 have hn:=hs.n
 obtain ⟨e1,e2⟩:=hs.e _ (zgl hi)
 obtain ⟨o1,o2⟩:=hs.sh.e _ (zgl hi)
 unfold zcs predV
 rw [zit,Option.bind_some,zdz,zdz,zdz,zes (by omega) (by omega),zes (by omega) (by omega),ziz (by omega) (by omega),zes (by omega) (by omega)]
 simp only [Option.bind_some,zai]
 rw [if_pos (by omega)]
 by_cases h1:k≤varsF s - 1
 ·rw [if_pos (by omega),if_pos h1,at_in' hi zN,Option.bind_some,l13At_in o1 (by omega)]
  rfl
 ·rw [if_neg (by omega),if_neg h1]
  by_cases h2:k≤2 * varsF s - 1
  ·rw [if_pos (by omega),if_pos h2,at_in' hi zN,Option.bind_some,zes (by omega) (by omega),l13At_in o2 (by omega)]
   rfl
  ·rw [if_neg (by omega),if_neg h2]
   simp only [eqI,zai]
   rw [if_pos (by omega),at_in' hi zN]
   rfl
theorem impl_pred {s:TStructure} (hs:okB s) {k i:Int} (hi:0≤i∧i < (s.nodes.length:Int)) (hk:0≤k∧k≤2 * varsF s):zct s k i=some (predV s k i):=by
 have hv:=hs.v
 have hn:=hs.n
 obtain ⟨e1,e2⟩:=hs.e _ (zgl hi)
 unfold zct predV zam
 rw [zgs,zit,Option.bind_some,zeu,zes (by omega) (by omega),ziz (by omega) (by omega)]
 simp only [Option.bind_some,zai,eqI,at_in' hi zN,zeu]
 rw [if_pos (by omega)]
 by_cases h3:k=2 * varsF s
 ·rw [if_pos h3,if_neg (by omega),if_neg (by omega)]
 ·rw [if_neg h3,zes (by omega) (by omega),zes (by omega) (by omega),zes (by omega) (by omega)]
  by_cases h1:k≤varsF s - 1
  ·rw [if_pos (by omega),if_pos h1,if_pos (by omega),at_in' (by omega) 0]
   rfl
  ·rw [if_neg (by omega),if_neg h1,if_pos (by omega),zes (by omega) (by omega),zes (by omega) (by omega),if_pos (by omega),at_in' (by omega) 0,if_pos (by omega)]
   rfl

def txtF (a:Int):ByteArray:=if 0≤a∧a≤2 then (⟨#[48,63,49]⟩:ByteArray).extract a.toNat (a+1).toNat else ⟨#[]⟩
theorem zla (a:Int):zbu a=some (txtF a):=by
 unfold zbu txtF zbh
 rw [zdz]
 simp only [Option.bind_some,zai]
 by_cases h:0≤a∧a≤2
 ·rw [if_pos h,if_pos h,zap (by omega) (by omega)]
  unfold sub?
  rw [if_pos ⟨h.1,by omega,by show a+1≤3;omega⟩]
  rfl
 ·rw [if_neg h,if_neg h]
theorem impl_txt (a:Int):zcz a=some (txtF a):=by
 rw [← zla]
 unfold zcz zbu
 rw [zqh]
theorem zgt (a:Int):(txtF a).size≤1:=by
 unfold txtF
 split
 ·rw [ByteArray.size_extract]
  have:(⟨#[48,63,49]⟩:ByteArray).size=3:=rfl
  omega
 ·exact Nat.zero_le _
def nameK (s:TStructure) (i:Int):Nat→ByteArray
 | 0=>⟨#[]⟩
 | k+1=>nameK s i k ++ txtF (predV s k i)
theorem zjr (s:TStructure) (i:Int):∀ k,(nameK s i k).size≤k
 | 0=>Nat.le_refl _
 | k+1=>by
  rw [nameK,ByteArray.size_append]
  have:=zjr s i k
  have:=zgt (predV s k i)
  omega
def nameF (s:TStructure) (i:Int):ByteArray:=nameK s i (2 * varsF s+1).toNat
theorem spec_name {s:TStructure} (hs:okB s) {i:Int} (hi:0≤i∧i < (s.nodes.length:Int)):zdw s i=some (nameF s i):=by
 have hv:=hs.v
 have hn:=hs.n
 have hz:=hs.z
 have hcp:zbe s=some (2 * varsF s+1):=by
  unfold zbe
  simp only [eqI,zai]
  rw [if_neg (by omega),zit,Option.bind_some,ziz (by omega) (by omega),zap (by omega) (by omega)]
 unfold zdw
 rw [zdz,zes (by omega) (by omega)]
 simp only [Option.bind_some,zai,hcp]
 rw [if_pos (by omega)]
 refine Tot.eq (Tot.bind (P:=(· = nameF s i)) (Tot.loop (fun k q=>q=(nameK s i k,(k:Int))) (2 * varsF s+1).toNat rfl fun k q hI hk=>?_) fun r hr=>by subst hr;exact Tot.ret rfl)
 subst hI
 by_cases hlt:(k:Int) < 2 * varsF s+1
 ·simp only [ltI,zai]
  rw [if_pos hlt,spec_pred hs hi (by omega),Option.bind_some,zla,Option.bind_some]
  have h1:=zjr s i k
  have h2:=zgt (predV s k i)
  unfold catS
  rw [if_pos (by omega),Option.bind_some,zap (by omega) (by omega)]
  exact Tot.ret ⟨by omega,rfl⟩
 ·simp only [ltI,zai]
  rw [if_neg hlt]
  have:k=(2 * varsF s+1).toNat:=by omega
  subst this
  exact Tot.ret rfl
theorem impl_name {s:TStructure} (hs:okB s) {i:Int} (hi:0≤i∧i < (s.nodes.length:Int)):zdl s i=some (nameF s i):=by
 have hv:=hs.v
 have hn:=hs.n
 have hz:=hs.z
 have hcp:zbf s=some (2 * varsF s+1):=by
  unfold zbf
  simp only [eqI,zai]
  rw [if_neg (by omega),zgs,zit,Option.bind_some,ziz (by omega) (by omega),zap (by omega) (by omega)]
 unfold zdl zam
 rw [zeu,zes (by omega) (by omega)]
 simp only [Option.bind_some,zai,hcp]
 rw [if_pos (by omega)]
 refine Tot.eq (Tot.bind (P:=(· = nameF s i)) (Tot.loop (fun k q=>q=(nameK s i k,(k:Int))) (2 * varsF s+1).toNat rfl fun k q hI hk=>?_) fun r hr=>by subst hr;exact Tot.ret rfl)
 subst hI
 by_cases hlt:(k:Int) < 2 * varsF s+1
 ·simp only [ltI,zai]
  rw [if_pos hlt,impl_pred hs hi (by omega),Option.bind_some,impl_txt,Option.bind_some]
  have h1:=zjr s i k
  have h2:=zgt (predV s k i)
  unfold catS
  rw [if_pos (by omega),Option.bind_some,zap (by omega) (by omega)]
  exact Tot.ret ⟨by omega,rfl⟩
 ·simp only [ltI,zai]
  rw [if_neg hlt]
  have:k=(2 * varsF s+1).toNat:=by omega
  subst this
  exact Tot.ret rfl
theorem name_size {s:TStructure} (hs:okB s) (i:Int):(nameF s i).size≤9:=by
 have:=zjr s i (2 * varsF s+1).toNat
 have:=hs.v
 unfold nameF
 omega
def namesL (s:TStructure) (k:Nat):List ByteArray:=(List.range k).map fun i:Nat=>nameF s (i:Int)
theorem zrj {s:TStructure} {nm:TStructure→Int→Option ByteArray} (h:∀ i:Nat,i < s.nodes.length→nm s (i:Int)=some (nameF s (i:Int))):∀ k,k≤s.nodes.length→namesT (nm s) k=some (namesL s k)
 | 0,_=>rfl
 | k+1,hk=>by
  rw [namesT,zrj h k (by omega),Option.bind_some,h k (by omega),Option.bind_some]
  unfold namesL
  rw [List.range_succ,List.map_append]
  rfl
theorem names_few {s:TStructure} (hs:okB s):few (namesL s s.nodes.length)=true:=by
 unfold few
 rw [Bool.and_eq_true,List.all_eq_true]
 have hn:=hs.n
 refine ⟨by simp [namesL];omega,fun x hx=>?_⟩
 unfold namesL at hx
 obtain ⟨i,_,rfl⟩:=List.mem_map.1 hx
 have:=name_size hs (i:Int)
 simp
 omega
end Go.Ev

