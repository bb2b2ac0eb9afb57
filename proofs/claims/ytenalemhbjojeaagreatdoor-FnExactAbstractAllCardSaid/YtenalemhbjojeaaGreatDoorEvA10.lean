import Derived.Test.YtenalemhbjojeaaGreatDoorEvA6
import Derived.Test.YtenalemhbjojeaaGreatDoorEvA7
import Derived.Test.YtenalemhbjojeaaGreatDoorEvA8
import Derived.Test.YtenalemhbjojeaaGreatDoorEvA9
set_option linter.unusedSimpArgs false
set_option linter.unusedVariables false
set_option linter.unnecessarySimpa false
noncomputable section
namespace Go.Ev
def zdo (s:(List (List Int))):Option (List Int):=zkh 8 s

def zba (l:List TStructure) (i:Int) (v:List TStructure):Option (List TStructure):=insF l i v

def strings_Join (l:List ByteArray) (s:ByteArray):Option ByteArray:=joinF l s

def zho (n:Int):Option ByteArray:=digF n

def zci (s:(List Int)):Option (List Int):=zlu 8 s

def zft (l:List ByteArray) (s:ByteArray):Option ByteArray:=joinF l s

def zbp (n:Int):Option ByteArray:=digF n

def laws_szIntS (a_:(List Int)) (left:Int):Option (Int) :=
 cond (ltI (subI left (a_.length:Int)) 0)
 (some (-1))
 (some (subI left (a_.length:Int)))

def laws_szNode (a_:TNode) (left:Int):Option (Int) :=
 (laws_szIntS a_.vars left).bind fun y_1 =>
 cond (ltI y_1 0)
 (some (-1))
 ((laws_szIntS a_.reach y_1).bind fun y_5 =>
 cond (ltI y_5 0)
 (some (-1))
 (some y_5))

def laws_szNodeS (a_:(List TNode)) (left:Int):Option (Int) :=
 cond (ltI (subI left (a_.length:Int)) 0)
 (some (-1))
 ((iter (ρ:=(Int) ⊕ (Int)) (fun s_2:Int × Int =>
 cond (ltI s_2.2 (a_.length:Int))
 ((at? a_ s_2.2).bind fun e_10 =>
 (laws_szNode e_10 s_2.1).bind fun y_15 =>
 cond (ltI y_15 0)
 (some (.inr (.inl (-1))))
 (some (.inl (y_15,addI s_2.2 1))))
 (some (.inr (.inr s_2.1)))) (subI left (a_.length:Int),0)).bind fun r_19 =>
 Sum.elim (fun r_19 =>
 some r_19)
 (fun r_19 =>
 some r_19) r_19)

def laws_szStructure (a_:TStructure) (left:Int):Option (Int) :=
 (laws_szNodeS a_.nodes left).bind fun y_1 =>
 cond (ltI y_1 0)
 (some (-1))
 ((laws_szIntS a_.next y_1).bind fun y_5 =>
 cond (ltI y_5 0)
 (some (-1))
 (some y_5))

def laws_szStructureS (a_:(List TStructure)) (left:Int):Option (Int) :=
 cond (ltI (subI left (a_.length:Int)) 0)
 (some (-1))
 ((iter (ρ:=(Int) ⊕ (Int)) (fun s_2:Int × Int =>
 cond (ltI s_2.2 (a_.length:Int))
 ((at? a_ s_2.2).bind fun e_10 =>
 (laws_szStructure e_10 s_2.1).bind fun y_15 =>
 cond (ltI y_15 0)
 (some (.inr (.inl (-1))))
 (some (.inl (y_15,addI s_2.2 1))))
 (some (.inr (.inr s_2.1)))) (subI left (a_.length:Int),0)).bind fun r_19 =>
 Sum.elim (fun r_19 =>
 some r_19)
 (fun r_19 =>
 some r_19) r_19)

def laws_toIntS (a_:(List Int)):Option ((List Int)) :=
 (roomI (a_.length:Int) 8).bind fun _ =>
 (iter (ρ:=(List Int)) (fun s_5:Int × (List Int) =>
 cond (ltI s_5.1 (a_.length:Int))
 ((at? a_ s_5.1).bind fun e_13 =>
 (at? s_5.2 s_5.1).bind fun e_18 =>
 some (.inl (addI s_5.1 1,s_5.2.set s_5.1.toNat e_13)))
 (some (.inr s_5.2))) (0,List.replicate (a_.length:Int).toNat (0:Int))).bind fun r_24 =>
 some r_24

def laws_toNode (a_:TNode):Option (TNode) :=
 (laws_toIntS a_.vars).bind fun y_1 =>
 (laws_toIntS a_.reach).bind fun y_4 =>
 some (⟨y_1,y_4,a_.shared,a_.many⟩:TNode)

def laws_toNodeS (a_:(List TNode)):Option ((List TNode)) :=
 (roomI (a_.length:Int) 64).bind fun _ =>
 (iter (ρ:=(List TNode)) (fun s_5:Int × (List TNode) =>
 cond (ltI s_5.1 (a_.length:Int))
 ((at? a_ s_5.1).bind fun e_13 =>
 (laws_toNode e_13).bind fun y_18 =>
 (at? s_5.2 s_5.1).bind fun e_21 =>
 some (.inl (addI s_5.1 1,s_5.2.set s_5.1.toNat y_18)))
 (some (.inr s_5.2))) (0,List.replicate (a_.length:Int).toNat ((⟨[],[],0,0⟩:TNode):TNode))).bind fun r_27 =>
 some r_27

def laws_toStructure (a_:TStructure):Option (TStructure) :=
 (laws_toNodeS a_.nodes).bind fun y_1 =>
 (laws_toIntS a_.next).bind fun y_4 =>
 some (⟨y_1,y_4⟩:TStructure)

def laws_toStructureS (a_:(List TStructure)):Option ((List TStructure)) :=
 (roomI (a_.length:Int) 48).bind fun _ =>
 (iter (ρ:=(List TStructure)) (fun s_5:Int × (List TStructure) =>
 cond (ltI s_5.1 (a_.length:Int))
 ((at? a_ s_5.1).bind fun e_13 =>
 (laws_toStructure e_13).bind fun y_18 =>
 (at? s_5.2 s_5.1).bind fun e_21 =>
 some (.inl (addI s_5.1 1,s_5.2.set s_5.1.toNat y_18)))
 (some (.inr s_5.2))) (0,List.replicate (a_.length:Int).toNat ((⟨[],[]⟩:TStructure):TStructure))).bind fun r_27 =>
 some r_27

def zcy (s:TStructure):Option (Int) :=
 cond (eqI (s.nodes.length:Int) 0)
 (some 0)
 ((at? s.nodes 0).bind fun e_2 =>
 some (e_2.vars.length:Int))

def zbe (x_:Int) (lo:Int) (hi:Int):Option (Bool) :=
 cond (leI lo x_)
 (some (leI x_ hi))
 (some false)

def zbm (a_:Int):Option (Bool) :=
 (zbe a_ 0 2).bind fun y_1 =>
 some y_1

def zct (list:(List Int)):Option (Bool) :=
 (iter (ρ:=(Unit) ⊕ (Unit)) (fun s_1:Int =>
 cond (ltI s_1 (list.length:Int))
 ((at? list s_1).bind fun e_9 =>
 (zbm e_9).bind fun y_14 =>
 cond y_14
 (some (.inl (addI s_1 1)))
 (some (.inr (.inl ()))))
 (some (.inr (.inr ())))) 0).bind fun r_18 =>
 Sum.elim (fun _r_18 =>
 some false)
 (fun _r_18 =>
 some true) r_18

def zcg (vars:Int) (s:TStructure):Option (Bool) :=
 (iter (ρ:=(Unit) ⊕ (Unit)) (fun s_1:Int =>
 cond (ltI s_1 (s.nodes.length:Int))
 ((at? s.nodes s_1).bind fun e_9 =>
 cond (neI (e_9.vars.length:Int) vars)
 (some (.inr (.inl ())))
 (cond (neI (e_9.reach.length:Int) vars)
 (some (.inr (.inl ())))
 ((zct e_9.vars).bind fun y_17 =>
 cond y_17
 ((zct e_9.reach).bind fun y_21 =>
 cond y_21
 ((zbm e_9.shared).bind fun y_25 =>
 cond y_25
 ((zbe e_9.many 0 1).bind fun y_29 =>
 cond y_29
 (some (.inl (addI s_1 1)))
 (some (.inr (.inl ()))))
 (some (.inr (.inl ()))))
 (some (.inr (.inl ()))))
 (some (.inr (.inl ()))))))
 (some (.inr (.inr ())))) 0).bind fun r_33 =>
 Sum.elim (fun _r_33 =>
 some false)
 (fun _r_33 =>
 (zbe vars 1 4).bind fun y_41 =>
 cond y_41
 (cond (leI (s.nodes.length:Int) 10)
 (cond (eqI (s.next.length:Int) (mulI (s.nodes.length:Int) (s.nodes.length:Int)))
 ((zct s.next).bind fun y_47 =>
 some y_47)
 (some false))
 (some false))
 (some false)) r_33

def zcf (x_:TNode):Option (TNode) :=
 (room (([]:List Int).length+x_.vars.length) 8).bind fun _ =>
 (room (([]:List Int).length+x_.reach.length) 8).bind fun _ =>
 some x_

def zbt (s:TStructure):Option (TStructure) :=
 (room (([]:List Int).length+s.next.length) 8).bind fun _ =>
 (iter (ρ:=(List TNode)) (fun s_3:Int × (List TNode) =>
 cond (ltI s_3.1 (s.nodes.length:Int))
 ((at? s.nodes s_3.1).bind fun e_11 =>
 (zcf e_11).bind fun y_16 =>
 (room (s_3.2.length + [y_16].length) 64).bind fun _ =>
 some (.inl (addI s_3.1 1,s_3.2 ++ [y_16])))
 (some (.inr s_3.2))) (0,[])).bind fun r_21 =>
 some (⟨r_21,s.next⟩:TStructure)

def zbj (s:TStructure):Option (Int) :=
 cond (eqI (s.nodes.length:Int) 0)
 (some 0)
 ((zcy s).bind fun y_2 =>
 some (addI (mulI 2 y_2) 1))

def zga (list:(List Int)) (k_:Int):Option (Int) :=
 (zbe k_ 0 (subI (list.length:Int) 1)).bind fun y_1 =>
 cond y_1
 ((at? list k_).bind fun e_5 =>
 some e_5)
 (some 1)

def zdd (s:TStructure) (k_:Int) (i:Int):Option (Int) :=
 (zcy s).bind fun y_1 =>
 (zbe i 0 (subI (s.nodes.length:Int) 1)).bind fun y_4 =>
 cond y_4
 ((zbe k_ 0 (subI y_1 1)).bind fun y_8 =>
 cond y_8
 ((at? s.nodes i).bind fun e_12 =>
 (zga e_12.vars k_).bind fun y_17 =>
 some y_17)
 ((zbe k_ y_1 (subI (mulI 2 y_1) 1)).bind fun y_20 =>
 cond y_20
 ((at? s.nodes i).bind fun e_24 =>
 (zga e_24.reach (subI k_ y_1)).bind fun y_29 =>
 some y_29)
 (cond (eqI k_ (mulI 2 y_1))
 ((at? s.nodes i).bind fun e_33 =>
 some e_33.shared)
 (some 1))))
 (some 1)

def zbz (a_:Int):Option (ByteArray) :=
 (zbm a_).bind fun y_1 =>
 cond y_1
 ((sub? (⟨#[48,63,49]⟩:ByteArray) a_ (addI a_ 1)).bind fun z_5 =>
 some z_5)
 (some (⟨#[]⟩:ByteArray))

def zen (s:TStructure) (i:Int):Option (ByteArray) :=
 (zbe i 0 (subI (s.nodes.length:Int) 1)).bind fun y_1 =>
 cond y_1
 ((zbj s).bind fun y_5 =>
 (iter (ρ:=ByteArray) (fun s_8:ByteArray × Int =>
 cond (ltI s_8.2 y_5)
 ((zdd s s_8.2 i).bind fun y_16 =>
 (zbz y_16).bind fun y_19 =>
 (catS s_8.1 y_19).bind fun z_22 =>
 some (.inl (z_22,addI s_8.2 1)))
 (some (.inr s_8.1))) ((⟨#[]⟩:ByteArray),0)).bind fun r_25 =>
 some r_25)
 (some (⟨#[]⟩:ByteArray))

def zfs (s:TStructure):Option (List (List Int)) :=
 groupsT zen s

def zej (s:TStructure) (group:(List Int)):Option (TNode) :=
 (at? group 0).bind fun e_1 =>
 (at? s.nodes e_1).bind fun e_6 =>
 (zcf e_6).bind fun y_11 =>
 (iter (ρ:=Int) (fun s_14:Int × Int =>
 cond (ltI s_14.1 (group.length:Int))
 (cond (ltI 1 (group.length:Int))
 (some (.inl (addI s_14.1 1,1)))
 ((at? group s_14.1).bind fun e_23 =>
 (at? s.nodes e_23).bind fun e_28 =>
 cond (neI e_28.many 0)
 (some (.inl (addI s_14.1 1,1)))
 (some (.inl (addI s_14.1 1,s_14.2)))))
 (some (.inr s_14.2))) (0,y_11.many)).bind fun r_34 =>
 some (⟨y_11.vars,y_11.reach,y_11.shared,r_34⟩:TNode)

def zco (s:TStructure) (i:Int) (j:Int):Option (Int) :=
 (zbe i 0 (subI (s.nodes.length:Int) 1)).bind fun y_1 =>
 cond y_1
 ((zbe j 0 (subI (s.nodes.length:Int) 1)).bind fun y_5 =>
 cond y_5
 (cond (neI (s.next.length:Int) (mulI (s.nodes.length:Int) (s.nodes.length:Int)))
 (some 1)
 ((at? s.next (addI (mulI i (s.nodes.length:Int)) j)).bind fun e_10 =>
 some e_10))
 (some 1))
 (some 1)

def zfc (a_:Int) (b_:Int):Option (Int) :=
 cond (neI a_ b_)
 (some 1)
 ((zbm a_).bind fun y_2 =>
 cond y_2
 (some a_)
 (some 1))

def zek (s:TStructure) (a_:(List Int)) (b_:(List Int)):Option (Int) :=
 (at? a_ 0).bind fun e_1 =>
 (at? b_ 0).bind fun e_6 =>
 (zco s e_1 e_6).bind fun y_11 =>
 (iter (ρ:=Int) (fun s_14:Int × Int =>
 cond (ltI s_14.2 (a_.length:Int))
 ((iter (ρ:=Int) (fun s_22:Int × Int =>
 cond (ltI s_22.2 (b_.length:Int))
 ((at? a_ s_14.2).bind fun e_30 =>
 (at? b_ s_22.2).bind fun e_35 =>
 (zco s e_30 e_35).bind fun y_40 =>
 (zfc s_22.1 y_40).bind fun y_43 =>
 some (.inl (y_43,addI s_22.2 1)))
 (some (.inr s_22.1))) (s_14.1,0)).bind fun r_46 =>
 some (.inl (r_46,addI s_14.2 1)))
 (some (.inr s_14.1))) (y_11,0)).bind fun r_51 =>
 some r_51

def zgv (s:TStructure):Option (TStructure) :=
 cond (eqI (s.nodes.length:Int) 0)
 (some (⟨[],[]⟩:TStructure))
 ((zcy s).bind fun y_2 =>
 (zcg y_2 s).bind fun y_5 =>
 cond y_5
 ((zfs s).bind fun y_9 =>
 (iter (ρ:=(List TNode) × (List Int)) (fun s_12:Int × (List TNode) × (List Int) =>
 cond (ltI s_12.1 (y_9.length:Int))
 ((at? y_9 s_12.1).bind fun e_20 =>
 (zej s e_20).bind fun y_25 =>
 (room (s_12.2.1.length + [y_25].length) 64).bind fun _ =>
 (iter (ρ:=(List Int)) (fun s_30:Int × (List Int) =>
 cond (ltI s_30.1 (y_9.length:Int))
 ((at? y_9 s_12.1).bind fun _ =>
 (at? y_9 s_30.1).bind fun e_43 =>
 (zek s e_20 e_43).bind fun y_48 =>
 (room (s_30.2.length + [y_48].length) 8).bind fun _ =>
 some (.inl (addI s_30.1 1,s_30.2 ++ [y_48])))
 (some (.inr s_30.2))) (0,s_12.2.2)).bind fun r_53 =>
 some (.inl (addI s_12.1 1,s_12.2.1 ++ [y_25],r_53)))
 (some (.inr (s_12.2.1,s_12.2.2)))) (0,[],[])).bind fun r_58 =>
 some (⟨r_58.1,r_58.2⟩:TStructure))
 ((zbt s).bind fun y_63 =>
 some y_63))

def zee (s:ByteArray):Option (Bool) :=
 (iter (ρ:=(Unit) ⊕ (Unit)) (fun s_1:Int =>
 cond (ltI s_1 (s.size:Int))
 ((chr? s s_1).bind fun e_9 =>
 cond (ltI e_9 97)
 (some (.inr (.inl ())))
 ((chr? s s_1).bind fun _ =>
 cond (ltI 122 e_9)
 (some (.inr (.inl ())))
 (some (.inl (addI s_1 1)))))
 (some (.inr (.inr ())))) 0).bind fun r_15 =>
 Sum.elim (fun _r_15 =>
 some false)
 (fun _r_15 =>
 (zbe (s.size:Int) 1 2).bind fun y_23 =>
 some y_23) r_15

def zch (list:(List ByteArray)) (s:ByteArray):Option (Int) :=
 (iter (ρ:=(Int) ⊕ (Unit)) (fun s_1:Int =>
 cond (ltI s_1 (list.length:Int))
 ((at? list s_1).bind fun e_9 =>
 cond (eqS e_9 s)
 (some (.inr (.inl s_1)))
 (some (.inl (addI s_1 1))))
 (some (.inr (.inr ())))) 0).bind fun r_15 =>
 Sum.elim (fun r_15 =>
 some r_15)
 (fun _r_15 =>
 some (-1)) r_15

def zbu (list:(List ByteArray)):Option (Bool) :=
 (iter (ρ:=(Unit) ⊕ (Unit)) (fun s_1:Int =>
 cond (ltI s_1 (list.length:Int))
 ((at? list s_1).bind fun e_9 =>
 (zee e_9).bind fun y_14 =>
 cond y_14
 ((at? list s_1).bind fun _ =>
 (zch list e_9).bind fun y_23 =>
 cond (neI y_23 s_1)
 (some (.inr (.inl ())))
 (some (.inl (addI s_1 1))))
 (some (.inr (.inl ()))))
 (some (.inr (.inr ())))) 0).bind fun r_27 =>
 Sum.elim (fun _r_27 =>
 some false)
 (fun _r_27 =>
 (zbe (list.length:Int) 1 4).bind fun y_35 =>
 some y_35) r_27

def zby (list:(List Int)):Option (ByteArray) :=
 (iter (ρ:=ByteArray) (fun s_1:ByteArray × Int =>
 cond (ltI s_1.2 (list.length:Int))
 ((at? list s_1.2).bind fun e_9 =>
 (zbz e_9).bind fun y_14 =>
 (catS s_1.1 y_14).bind fun z_17 =>
 some (.inl (z_17,addI s_1.2 1)))
 (some (.inr s_1.1))) ((⟨#[]⟩:ByteArray),0)).bind fun r_20 =>
 some r_20

def zfb (s:TStructure) (i:Int):Option (ByteArray) :=
 (at? s.nodes i).bind fun e_1 =>
 (zby e_1.vars).bind fun y_6 =>
 (zby e_1.reach).bind fun y_9 =>
 (catS y_6 y_9).bind fun z_12 =>
 (zbz e_1.shared).bind fun y_15 =>
 (catS z_12 y_15).bind fun z_18 =>
 cond (eqI e_1.many 1)
 ((catS z_18 (⟨#[42]⟩:ByteArray)).bind fun z_22 =>
 (iter (ρ:=(List ByteArray)) (fun s_25:(List ByteArray) × Int =>
 cond (ltI s_25.2 (s.nodes.length:Int))
 ((zco s i s_25.2).bind fun y_33 =>
 cond (eqI y_33 2)
 ((zbp s_25.2).bind fun y_37 =>
 (room (s_25.1.length + [y_37].length) 16).bind fun _ =>
 some (.inl (s_25.1 ++ [y_37],addI s_25.2 1)))
 (cond (eqI y_33 1)
 ((zbp s_25.2).bind fun y_43 =>
 (catS y_43 (⟨#[63]⟩:ByteArray)).bind fun z_46 =>
 (room (s_25.1.length + [z_46].length) 16).bind fun _ =>
 some (.inl (s_25.1 ++ [z_46],addI s_25.2 1)))
 (some (.inl (s_25.1,addI s_25.2 1)))))
 (some (.inr s_25.1))) ([],0)).bind fun r_51 =>
 cond (ltI 0 (r_51.length:Int))
 ((catS z_22 (⟨#[62]⟩:ByteArray)).bind fun z_57 =>
 (zft r_51 (⟨#[44]⟩:ByteArray)).bind fun y_60 =>
 (catS z_57 y_60).bind fun z_63 =>
 some z_63)
 (some z_22))
 ((iter (ρ:=(List ByteArray)) (fun s_66:(List ByteArray) × Int =>
 cond (ltI s_66.2 (s.nodes.length:Int))
 ((zco s i s_66.2).bind fun y_74 =>
 cond (eqI y_74 2)
 ((zbp s_66.2).bind fun y_78 =>
 (room (s_66.1.length + [y_78].length) 16).bind fun _ =>
 some (.inl (s_66.1 ++ [y_78],addI s_66.2 1)))
 (cond (eqI y_74 1)
 ((zbp s_66.2).bind fun y_84 =>
 (catS y_84 (⟨#[63]⟩:ByteArray)).bind fun z_87 =>
 (room (s_66.1.length + [z_87].length) 16).bind fun _ =>
 some (.inl (s_66.1 ++ [z_87],addI s_66.2 1)))
 (some (.inl (s_66.1,addI s_66.2 1)))))
 (some (.inr s_66.1))) ([],0)).bind fun r_92 =>
 cond (ltI 0 (r_92.length:Int))
 ((catS z_18 (⟨#[62]⟩:ByteArray)).bind fun z_98 =>
 (zft r_92 (⟨#[44]⟩:ByteArray)).bind fun y_101 =>
 (catS z_98 y_101).bind fun z_104 =>
 some z_104)
 (some z_18))

def zay (vars:(List ByteArray)) (s:TStructure):Option (ByteArray) :=
 (zbu vars).bind fun y_1 =>
 cond y_1
 ((zcg (vars.length:Int) s).bind fun y_5 =>
 cond y_5
 ((iter (ρ:=(List ByteArray)) (fun s_9:(List ByteArray) × Int =>
 cond (ltI s_9.2 (s.nodes.length:Int))
 ((zfb s s_9.2).bind fun y_17 =>
 (room (s_9.1.length + [y_17].length) 16).bind fun _ =>
 some (.inl (s_9.1 ++ [y_17],addI s_9.2 1)))
 (some (.inr s_9.1))) ([],0)).bind fun r_22 =>
 cond (eqI (r_22.length:Int) 0)
 (some (⟨#[45]⟩:ByteArray))
 ((zft r_22 (⟨#[32]⟩:ByteArray)).bind fun y_28 =>
 some y_28))
 (some (⟨#[]⟩:ByteArray)))
 (some (⟨#[]⟩:ByteArray))

def zed (s:TStructure):Option (ByteArray) :=
 cond (eqI (s.nodes.length:Int) 0)
 (some (⟨#[45]⟩:ByteArray))
 ((zcy s).bind fun y_2 =>
 (zbe y_2 1 4).bind fun y_5 =>
 cond y_5
 ((slc [(⟨#[97]⟩:ByteArray),(⟨#[98]⟩:ByteArray),(⟨#[99]⟩:ByteArray),(⟨#[100]⟩:ByteArray)] 0 y_2).bind fun z_9 =>
 (zay z_9 s).bind fun y_16 =>
 some y_16)
 (some (⟨#[]⟩:ByteArray)))

def zdi (set:(List TStructure)) (s:TStructure):Option ((List TStructure)) :=
 (zgv s).bind fun y_1 =>
 (zed y_1).bind fun y_4 =>
 (iter (ρ:=Bool) (fun s_7:Bool × Int =>
 cond (ltI s_7.2 (set.length:Int))
 (cond s_7.1
 (some (.inl (true,addI s_7.2 1)))
 ((at? set s_7.2).bind fun e_16 =>
 (zed e_16).bind fun y_21 =>
 some (.inl (eqS y_21 y_4,addI s_7.2 1))))
 (some (.inr s_7.1))) (false,0)).bind fun r_24 =>
 (iter (ρ:=(List TStructure) × Bool) (fun s_29:(List TStructure) × Int × Bool =>
 cond (ltI s_29.2.1 (set.length:Int))
 (cond s_29.2.2
 ((at? set s_29.2.1).bind fun e_38 =>
 (zbt e_38).bind fun y_43 =>
 (room (s_29.1.length + [y_43].length) 48).bind fun _ =>
 some (.inl (s_29.1 ++ [y_43],addI s_29.2.1 1,s_29.2.2)))
 ((at? set s_29.2.1).bind fun e_48 =>
 (zed e_48).bind fun y_53 =>
 cond (gtT y_53 y_4)
 ((zbt y_1).bind fun y_57 =>
 (room (s_29.1.length + [y_57].length) 48).bind fun _ =>
 (at? set s_29.2.1).bind fun _ =>
 (zbt e_48).bind fun y_67 =>
 (room ((s_29.1 ++ [y_57]).length + [y_67].length) 48).bind fun _ =>
 some (.inl ((s_29.1 ++ [y_57]) ++ [y_67],addI s_29.2.1 1,true)))
 ((at? set s_29.2.1).bind fun _ =>
 (zbt e_48).bind fun y_77 =>
 (room (s_29.1.length + [y_77].length) 48).bind fun _ =>
 some (.inl (s_29.1 ++ [y_77],addI s_29.2.1 1,s_29.2.2)))))
 (some (.inr (s_29.1,s_29.2.2)))) ([],0,r_24)).bind fun r_82 =>
 cond r_82.2
 (some r_82.1)
 ((zbt y_1).bind fun y_88 =>
 (room (r_82.1.length + [y_88].length) 48).bind fun _ =>
 some (r_82.1 ++ [y_88]))

def zdl (x_:TNode):Option (TNode) :=
 (zci x_.vars).bind fun y_1 =>
 (zci x_.reach).bind fun y_4 =>
 some (⟨y_1,y_4,x_.shared,x_.many⟩:TNode)

def zbo (s:TStructure):Option (TStructure) :=
 (zci s.next).bind fun y_1 =>
 (iter (ρ:=(List TNode)) (fun s_4:Int × (List TNode) =>
 cond (ltI s_4.1 (s.nodes.length:Int))
 ((at? s.nodes s_4.1).bind fun e_12 =>
 (zdl e_12).bind fun y_18 =>
 (room (s_4.2.length + [y_18].length) 64).bind fun _ =>
 some (.inl (addI s_4.1 1,s_4.2 ++ [y_18])))
 (some (.inr s_4.2))) (0,[])).bind fun r_23 =>
 some (⟨r_23,y_1⟩:TStructure)

def zff (set:(List TStructure)):Option ((List TStructure)) :=
 (iter (ρ:=(List TStructure)) (fun s_1:(List TStructure) × Int =>
 cond (ltI s_1.2 (set.length:Int))
 ((at? set s_1.2).bind fun e_9 =>
 (zbo e_9).bind fun y_15 =>
 (room (s_1.1.length + [y_15].length) 48).bind fun _ =>
 some (.inl (s_1.1 ++ [y_15],addI s_1.2 1)))
 (some (.inr s_1.1))) ([],0)).bind fun r_20 =>
 some r_20

def zcv (s:TStructure):Option (Int) :=
 cond (eqI (s.nodes.length:Int) 0)
 (some 0)
 ((at? s.nodes 0).bind fun e_2 =>
 some (e_2.vars.length:Int))

def zbd (n_:Int) (low:Int) (high:Int):Option (Bool) :=
 cond (leI low n_)
 (some (leI n_ high))
 (some false)

def zcj (a_:Int):Option (Bool) :=
 (zbd a_ 0 2).bind fun y_1 =>
 some y_1

def zdu (a_:Int):Option (Bool) :=
 (zcj a_).bind fun y_1 =>
 some (notB y_1)

def zef (s:(List Int)) (f_:(Int→Option (Bool))):Option (Int) :=
 (iter (ρ:=(Int) ⊕ (Unit)) (fun s_1:Int =>
 cond (ltI s_1 (s.length:Int))
 ((at? s s_1).bind fun e_10 =>
 (f_ e_10).bind fun y_15 =>
 cond y_15
 (some (.inr (.inl s_1)))
 (some (.inl (addI s_1 1))))
 (some (.inr (.inr ())))) 0).bind fun r_18 =>
 Sum.elim (fun r_18 =>
 some r_18)
 (fun _r_18 =>
 some (-1)) r_18

def zbb (s:(List Int)) (f_:(Int→Option (Bool))):Option (Bool) :=
 (zef s f_).bind fun y_1 =>
 some (leI 0 y_1)

def zcw (list:(List Int)):Option (Bool) :=
 (zbb list (fun x0=>zdu x0)).bind fun y_1 =>
 some (notB y_1)

def zdw (s:(List TNode)) (f_:(TNode→Option (Bool))):Option (Int) :=
 (iter (ρ:=(Int) ⊕ (Unit)) (fun s_1:Int =>
 cond (ltI s_1 (s.length:Int))
 ((at? s s_1).bind fun e_10 =>
 (f_ e_10).bind fun y_15 =>
 cond y_15
 (some (.inr (.inl s_1)))
 (some (.inl (addI s_1 1))))
 (some (.inr (.inr ())))) 0).bind fun r_18 =>
 Sum.elim (fun r_18 =>
 some r_18)
 (fun _r_18 =>
 some (-1)) r_18

def zbv (s:(List TNode)) (f_:(TNode→Option (Bool))):Option (Bool) :=
 (zdw s f_).bind fun y_1 =>
 some (leI 0 y_1)

def zdb (x_:TNode) (c0:Int):Option (Bool) :=
 cond (neI (x_.vars.length:Int) c0)
 (some true)
 (cond (neI (x_.reach.length:Int) c0)
 (some true)
 ((zcw x_.vars).bind fun y_3 =>
 cond y_3
 ((zcw x_.reach).bind fun y_7 =>
 cond y_7
 ((zcj x_.shared).bind fun y_11 =>
 cond y_11
 (cond (neI x_.many 0)
 (some (neI x_.many 1))
 (some false))
 (some true))
 (some true))
 (some true)))

def zck (vars:Int) (s:TStructure):Option (Bool) :=
 (zbd vars 1 4).bind fun y_1 =>
 cond y_1
 (cond (ltI 10 (s.nodes.length:Int))
 (some false)
 (cond (neI (s.next.length:Int) (mulI (s.nodes.length:Int) (s.nodes.length:Int)))
 (some false)
 ((zcw s.next).bind fun y_7 =>
 cond y_7
 ((zbv s.nodes (fun x0=>zdb x0 vars)).bind fun y_11 =>
 some (notB y_11))
 (some false))))
 (some false)

def zao (s:TStructure) (i:Int):Option (Bool) :=
 (zbd i 0 (subI (s.nodes.length:Int) 1)).bind fun y_1 =>
 some y_1

def zbl (s:TStructure):Option (Int) :=
 cond (eqI (s.nodes.length:Int) 0)
 (some 0)
 ((zcv s).bind fun y_2 =>
 some (addI (mulI 2 y_2) 1))

def zdh (s:TStructure) (k_:Int) (i:Int):Option (Int) :=
 (zcv s).bind fun y_1 =>
 (zao s i).bind fun y_4 =>
 cond y_4
 ((at? s.nodes i).bind fun e_8 =>
 cond (eqI k_ (mulI 2 y_1))
 (some e_8.shared)
 ((zbd k_ 0 (subI y_1 1)).bind fun y_14 =>
 cond y_14
 ((zbd k_ 0 (subI (e_8.vars.length:Int) 1)).bind fun y_18 =>
 cond y_18
 ((at? e_8.vars k_).bind fun e_22 =>
 some e_22)
 (some 1))
 ((zbd k_ y_1 (subI (mulI 2 y_1) 1)).bind fun y_27 =>
 cond y_27
 ((zbd (subI k_ y_1) 0 (subI (e_8.reach.length:Int) 1)).bind fun y_31 =>
 cond y_31
 ((at? e_8.reach (subI k_ y_1)).bind fun e_35 =>
 some e_35)
 (some 1))
 ((zbd k_ 0 (subI 0 1)).bind fun y_40 =>
 cond y_40
 ((at? [] k_).bind fun e_44 =>
 some e_44)
 (some 1)))))
 (some 1)

def zdm (a_:Int):Option (ByteArray) :=
 (zcj a_).bind fun y_1 =>
 cond y_1
 ((sub? (⟨#[48,63,49]⟩:ByteArray) a_ (addI a_ 1)).bind fun z_5 =>
 some z_5)
 (some (⟨#[]⟩:ByteArray))

def zea (s:TStructure) (i:Int):Option (ByteArray) :=
 (zao s i).bind fun y_1 =>
 cond y_1
 ((zbl s).bind fun y_5 =>
 (iter (ρ:=ByteArray) (fun s_8:ByteArray × Int =>
 cond (ltI s_8.2 y_5)
 ((zdh s s_8.2 i).bind fun y_16 =>
 (zdm y_16).bind fun y_19 =>
 (catS s_8.1 y_19).bind fun z_22 =>
 some (.inl (z_22,addI s_8.2 1)))
 (some (.inr s_8.1))) ((⟨#[]⟩:ByteArray),0)).bind fun r_25 =>
 some r_25)
 (some (⟨#[]⟩:ByteArray))

def zdp (s:TStructure) (i:Int) (j:Int):Option (Int) :=
 (zao s i).bind fun y_1 =>
 cond y_1
 ((zao s j).bind fun y_5 =>
 cond y_5
 (cond (neI (s.next.length:Int) (mulI (s.nodes.length:Int) (s.nodes.length:Int)))
 (some 1)
 ((at? s.next (addI (mulI i (s.nodes.length:Int)) j)).bind fun e_10 =>
 some e_10))
 (some 1))
 (some 1)

def zfx (a_:Int) (b_:Int):Option (Int) :=
 cond (neI a_ b_)
 (some 1)
 ((zcj a_).bind fun y_2 =>
 cond y_2
 (some a_)
 (some 1))

def zdz (s:TStructure) (from_:(List Int)) (to_:(List Int)):Option (Int) :=
 (at? from_ 0).bind fun e_1 =>
 (at? to_ 0).bind fun e_6 =>
 (zdp s e_1 e_6).bind fun y_11 =>
 (iter (ρ:=Int) (fun s_14:Int × Int =>
 cond (ltI s_14.2 (from_.length:Int))
 ((at? from_ s_14.2).bind fun e_22 =>
 (iter (ρ:=Int) (fun s_27:Int × Int =>
 cond (ltI s_27.2 (to_.length:Int))
 ((at? to_ s_27.2).bind fun e_35 =>
 (zdp s e_22 e_35).bind fun y_40 =>
 (zfx s_27.1 y_40).bind fun y_43 =>
 some (.inl (y_43,addI s_27.2 1)))
 (some (.inr s_27.1))) (s_14.1,0)).bind fun r_46 =>
 some (.inl (r_46,addI s_14.2 1)))
 (some (.inr s_14.1))) (y_11,0)).bind fun r_51 =>
 some r_51

def zgy (s:TStructure):Option (TStructure) :=
 cond (eqI (s.nodes.length:Int) 0)
 (some (⟨[],[]⟩:TStructure))
 ((zcv s).bind fun y_2 =>
 (zck y_2 s).bind fun y_5 =>
 cond y_5
 ((preT zea s).bind fun p_9 =>
 (iter (ρ:=(List TNode) × (List Int)) (fun s_11:Int × (List TNode) × (List Int) =>
 cond (ltI s_11.1 (p_9.2.length:Int))
 ((at? p_9.2 s_11.1).bind fun e_19 =>
 (lookT e_19 p_9.1).bind fun y_24 =>
 (at? y_24 0).bind fun e_27 =>
 (at? s.nodes e_27).bind fun e_32 =>
 (zdl e_32).bind fun y_37 =>
 (lookT e_19 p_9.1).bind fun _ =>
 (iter (ρ:=Int) (fun s_42:Int × Int =>
 cond (ltI s_42.1 (y_24.length:Int))
 ((at? y_24 s_42.1).bind fun e_50 =>
 cond (ltI 0 s_42.1)
 (some (.inl (addI s_42.1 1,1)))
 ((at? s.nodes e_50).bind fun e_56 =>
 cond (neI e_56.many 0)
 (some (.inl (addI s_42.1 1,1)))
 (some (.inl (addI s_42.1 1,s_42.2)))))
 (some (.inr s_42.2))) (0,y_37.many)).bind fun r_62 =>
 (room (s_11.2.1.length + [(⟨y_37.vars,y_37.reach,y_37.shared,r_62⟩:TNode)].length) 64).bind fun _ =>
 (iter (ρ:=(List Int)) (fun s_69:Int × (List Int) =>
 cond (ltI s_69.1 (p_9.2.length:Int))
 ((at? p_9.2 s_69.1).bind fun e_77 =>
 (lookT e_19 p_9.1).bind fun _ =>
 (lookT e_77 p_9.1).bind fun y_83 =>
 (zdz s y_24 y_83).bind fun y_86 =>
 (room (s_69.2.length + [y_86].length) 8).bind fun _ =>
 some (.inl (addI s_69.1 1,s_69.2 ++ [y_86])))
 (some (.inr s_69.2))) (0,s_11.2.2)).bind fun r_91 =>
 some (.inl (addI s_11.1 1,s_11.2.1 ++ [(⟨y_37.vars,y_37.reach,y_37.shared,r_62⟩:TNode)],r_91)))
 (some (.inr (s_11.2.1,s_11.2.2)))) (0,[],[])).bind fun r_96 =>
 some (⟨r_96.1,r_96.2⟩:TStructure))
 ((zbo s).bind fun y_101 =>
 some y_101))

def zfy (s:ByteArray):Option (Bool) :=
 (iter (ρ:=(Unit) ⊕ (Unit)) (fun s_1:Int =>
 cond (ltI s_1 (s.size:Int))
 ((chr? s s_1).bind fun e_9 =>
 cond (ltI e_9 97)
 (some (.inr (.inl ())))
 ((chr? s s_1).bind fun _ =>
 cond (ltI 122 e_9)
 (some (.inr (.inl ())))
 (some (.inl (addI s_1 1)))))
 (some (.inr (.inr ())))) 0).bind fun r_15 =>
 Sum.elim (fun _r_15 =>
 some false)
 (fun _r_15 =>
 (zbd (s.size:Int) 1 2).bind fun y_23 =>
 some y_23) r_15

def zbq (s:(List ByteArray)) (v:ByteArray):Option (Int) :=
 (iter (ρ:=(Int) ⊕ (Unit)) (fun s_1:Int =>
 cond (ltI s_1 (s.length:Int))
 ((at? s s_1).bind fun e_9 =>
 cond (eqS v e_9)
 (some (.inr (.inl s_1)))
 (some (.inl (addI s_1 1))))
 (some (.inr (.inr ())))) 0).bind fun r_15 =>
 Sum.elim (fun r_15 =>
 some r_15)
 (fun _r_15 =>
 some (-1)) r_15

def zfg (list:(List ByteArray)) (s:ByteArray):Option (Int) :=
 (zbq list s).bind fun y_1 =>
 some y_1

def zcl (list:(List ByteArray)):Option (Bool) :=
 (iter (ρ:=(Unit) ⊕ (Unit)) (fun s_1:Int =>
 cond (ltI s_1 (list.length:Int))
 ((at? list s_1).bind fun e_9 =>
 (zfy e_9).bind fun y_14 =>
 cond y_14
 ((zfg list e_9).bind fun y_18 =>
 cond (neI y_18 s_1)
 (some (.inr (.inl ())))
 (some (.inl (addI s_1 1))))
 (some (.inr (.inl ()))))
 (some (.inr (.inr ())))) 0).bind fun r_22 =>
 Sum.elim (fun _r_22 =>
 some false)
 (fun _r_22 =>
 (zbd (list.length:Int) 1 4).bind fun y_30 =>
 some y_30) r_22

def zcc (list:(List Int)):Option (ByteArray) :=
 (iter (ρ:=ByteArray) (fun s_1:ByteArray × Int =>
 cond (ltI s_1.2 (list.length:Int))
 ((at? list s_1.2).bind fun e_9 =>
 (zdm e_9).bind fun y_14 =>
 (catS s_1.1 y_14).bind fun z_17 =>
 some (.inl (z_17,addI s_1.2 1)))
 (some (.inr s_1.1))) ((⟨#[]⟩:ByteArray),0)).bind fun r_20 =>
 some r_20

def zca (n_:Int):Option (ByteArray) :=
 (zho n_).bind fun y_1 =>
 some y_1

def zgf (list:(List ByteArray)) (by_:ByteArray):Option (ByteArray) :=
 (strings_Join list by_).bind fun y_1 =>
 some y_1

def zap (vars:(List ByteArray)) (s:TStructure):Option (ByteArray) :=
 (zcl vars).bind fun y_1 =>
 cond y_1
 ((zck (vars.length:Int) s).bind fun y_5 =>
 cond y_5
 (cond (eqI (s.nodes.length:Int) 0)
 (some (⟨#[45]⟩:ByteArray))
 ((iter (ρ:=(List ByteArray)) (fun s_10:(List ByteArray) × Int =>
 cond (ltI s_10.2 (s.nodes.length:Int))
 ((at? s.nodes s_10.2).bind fun e_18 =>
 (zcc e_18.vars).bind fun y_24 =>
 (zcc e_18.reach).bind fun y_27 =>
 (catS y_24 y_27).bind fun z_30 =>
 (zcc [e_18.shared]).bind fun y_33 =>
 (catS z_30 y_33).bind fun z_36 =>
 cond (eqI e_18.many 1)
 ((catS z_36 (⟨#[42]⟩:ByteArray)).bind fun z_40 =>
 (iter (ρ:=(List ByteArray)) (fun s_43:(List ByteArray) × Int =>
 cond (ltI s_43.2 (s.nodes.length:Int))
 ((zdp s s_10.2 s_43.2).bind fun y_51 =>
 cond (eqI y_51 2)
 ((zca s_43.2).bind fun y_55 =>
 (room (s_43.1.length + [y_55].length) 16).bind fun _ =>
 some (.inl (s_43.1 ++ [y_55],addI s_43.2 1)))
 (cond (eqI y_51 1)
 ((zca s_43.2).bind fun y_61 =>
 (catS y_61 (⟨#[63]⟩:ByteArray)).bind fun z_64 =>
 (room (s_43.1.length + [z_64].length) 16).bind fun _ =>
 some (.inl (s_43.1 ++ [z_64],addI s_43.2 1)))
 (some (.inl (s_43.1,addI s_43.2 1)))))
 (some (.inr s_43.1))) ([],0)).bind fun r_69 =>
 cond (ltI 0 (r_69.length:Int))
 ((zgf r_69 (⟨#[44]⟩:ByteArray)).bind fun y_75 =>
 (catS (⟨#[62]⟩:ByteArray) y_75).bind fun z_78 =>
 (catS z_40 z_78).bind fun z_81 =>
 (room (s_10.1.length + [z_81].length) 16).bind fun _ =>
 some (.inl (s_10.1 ++ [z_81],addI s_10.2 1)))
 ((room (s_10.1.length + [z_40].length) 16).bind fun _ =>
 some (.inl (s_10.1 ++ [z_40],addI s_10.2 1))))
 ((iter (ρ:=(List ByteArray)) (fun s_88:(List ByteArray) × Int =>
 cond (ltI s_88.2 (s.nodes.length:Int))
 ((zdp s s_10.2 s_88.2).bind fun y_96 =>
 cond (eqI y_96 2)
 ((zca s_88.2).bind fun y_100 =>
 (room (s_88.1.length + [y_100].length) 16).bind fun _ =>
 some (.inl (s_88.1 ++ [y_100],addI s_88.2 1)))
 (cond (eqI y_96 1)
 ((zca s_88.2).bind fun y_106 =>
 (catS y_106 (⟨#[63]⟩:ByteArray)).bind fun z_109 =>
 (room (s_88.1.length + [z_109].length) 16).bind fun _ =>
 some (.inl (s_88.1 ++ [z_109],addI s_88.2 1)))
 (some (.inl (s_88.1,addI s_88.2 1)))))
 (some (.inr s_88.1))) ([],0)).bind fun r_114 =>
 cond (ltI 0 (r_114.length:Int))
 ((zgf r_114 (⟨#[44]⟩:ByteArray)).bind fun y_120 =>
 (catS (⟨#[62]⟩:ByteArray) y_120).bind fun z_123 =>
 (catS z_36 z_123).bind fun z_126 =>
 (room (s_10.1.length + [z_126].length) 16).bind fun _ =>
 some (.inl (s_10.1 ++ [z_126],addI s_10.2 1)))
 ((room (s_10.1.length + [z_36].length) 16).bind fun _ =>
 some (.inl (s_10.1 ++ [z_36],addI s_10.2 1)))))
 (some (.inr s_10.1))) ([],0)).bind fun r_133 =>
 (zgf r_133 (⟨#[32]⟩:ByteArray)).bind fun y_138 =>
 some y_138))
 (some (⟨#[]⟩:ByteArray)))
 (some (⟨#[]⟩:ByteArray))

def zeq (s:TStructure):Option (ByteArray) :=
 cond (eqI (s.nodes.length:Int) 0)
 (some (⟨#[45]⟩:ByteArray))
 ((zcv s).bind fun y_2 =>
 (slc [(⟨#[97]⟩:ByteArray),(⟨#[98]⟩:ByteArray),(⟨#[99]⟩:ByteArray),(⟨#[100]⟩:ByteArray)] 0 (minI y_2 4)).bind fun z_5 =>
 (zap z_5 s).bind fun y_12 =>
 some y_12)

def zas (s:(List TStructure)) (f_:(TStructure→Option (Bool))):Option (Int) :=
 (iter (ρ:=(Int) ⊕ (Unit)) (fun s_1:Int =>
 cond (ltI s_1 (s.length:Int))
 ((at? s s_1).bind fun e_10 =>
 (f_ e_10).bind fun y_15 =>
 cond y_15
 (some (.inr (.inl s_1)))
 (some (.inl (addI s_1 1))))
 (some (.inr (.inr ())))) 0).bind fun r_18 =>
 Sum.elim (fun r_18 =>
 some r_18)
 (fun _r_18 =>
 some (-1)) r_18

def zat (s:(List TStructure)) (f_:(TStructure→Option (Bool))):Option (Bool) :=
 (zas s f_).bind fun y_1 =>
 some (leI 0 y_1)

def zei (y_:TStructure) (c0:ByteArray):Option (Bool) :=
 (zeq y_).bind fun y_1 =>
 some (eqS y_1 c0)

def zeh (y_:TStructure) (c0:ByteArray):Option (Bool) :=
 (zeq y_).bind fun y_1 =>
 some (gtT y_1 c0)

def zcx (set:(List TStructure)) (s:TStructure):Option ((List TStructure)) :=
 (zff set).bind fun y_1 =>
 (zgy s).bind fun y_4 =>
 (zeq y_4).bind fun y_7 =>
 (zat set (fun x0=>zei x0 y_7)).bind fun y_10 =>
 cond y_10
 (some y_1)
 ((zas set (fun x0=>zeh x0 y_7)).bind fun y_13 =>
 cond (ltI y_13 0)
 ((zba y_1 (y_1.length:Int) [y_4]).bind fun y_18 =>
 some y_18)
 ((zba y_1 y_13 [y_4]).bind fun y_23 =>
 some y_23))

def laws_eqIntS (a_:(List Int)) (b_:(List Int)):Option (Bool) :=
 cond (neI (a_.length:Int) (b_.length:Int))
 (some false)
 ((iter (ρ:=(Unit) ⊕ (Unit)) (fun s_2:Int =>
 cond (ltI s_2 (a_.length:Int))
 ((at? a_ s_2).bind fun e_10 =>
 (at? b_ s_2).bind fun e_15 =>
 cond (neI e_10 e_15)
 (some (.inr (.inl ())))
 (some (.inl (addI s_2 1))))
 (some (.inr (.inr ())))) 0).bind fun r_21 =>
 Sum.elim (fun _r_21 =>
 some false)
 (fun _r_21 =>
 some true) r_21)

def laws_eqNode (a_:TNode) (b_:TNode):Option (Bool) :=
 (laws_eqIntS a_.vars b_.vars).bind fun y_1 =>
 cond y_1
 ((laws_eqIntS a_.reach b_.reach).bind fun y_5 =>
 cond y_5
 (cond (neI a_.shared b_.shared)
 (some false)
 (cond (neI a_.many b_.many)
 (some false)
 (some true)))
 (some false))
 (some false)

def laws_eqNodeS (a_:(List TNode)) (b_:(List TNode)):Option (Bool) :=
 cond (neI (a_.length:Int) (b_.length:Int))
 (some false)
 ((iter (ρ:=(Unit) ⊕ (Unit)) (fun s_2:Int =>
 cond (ltI s_2 (a_.length:Int))
 ((at? a_ s_2).bind fun e_10 =>
 (at? b_ s_2).bind fun e_15 =>
 (laws_eqNode e_10 e_15).bind fun y_20 =>
 cond y_20
 (some (.inl (addI s_2 1)))
 (some (.inr (.inl ()))))
 (some (.inr (.inr ())))) 0).bind fun r_24 =>
 Sum.elim (fun _r_24 =>
 some false)
 (fun _r_24 =>
 some true) r_24)

def laws_eqStructure (a_:TStructure) (b_:TStructure):Option (Bool) :=
 (laws_eqNodeS a_.nodes b_.nodes).bind fun y_1 =>
 cond y_1
 ((laws_eqIntS a_.next b_.next).bind fun y_5 =>
 cond y_5
 (some true)
 (some false))
 (some false)

def laws_eqStructureS (a_:(List TStructure)) (b_:(List TStructure)):Option (Bool) :=
 cond (neI (a_.length:Int) (b_.length:Int))
 (some false)
 ((iter (ρ:=(Unit) ⊕ (Unit)) (fun s_2:Int =>
 cond (ltI s_2 (a_.length:Int))
 ((at? a_ s_2).bind fun e_10 =>
 (at? b_ s_2).bind fun e_15 =>
 (laws_eqStructure e_10 e_15).bind fun y_20 =>
 cond y_20
 (some (.inl (addI s_2 1)))
 (some (.inr (.inl ()))))
 (some (.inr (.inr ())))) 0).bind fun r_24 =>
 Sum.elim (fun _r_24 =>
 some false)
 (fun _r_24 =>
 some true) r_24)

def laws_heldIntS (a_:(List Int)) (k_:Int):Option (Int) :=
 (iter (ρ:=(Int) ⊕ (Int)) (fun s_1:Int × Int =>
 cond (ltI s_1.2 (a_.length:Int))
 ((at? a_ s_1.2).bind fun e_9 =>
 cond (neI e_9 s_1.1)
 (some (.inr (.inl (-1))))
 (some (.inl (addI s_1.1 1,addI s_1.2 1))))
 (some (.inr (.inr s_1.1)))) (k_,0)).bind fun r_15 =>
 Sum.elim (fun r_15 =>
 some r_15)
 (fun r_15 =>
 some r_15) r_15

def laws_heldNodeS (a_:(List TNode)) (k_:Int):Option (Int) :=
 (iter (ρ:=(Int) ⊕ (Int)) (fun s_1:Int × Int =>
 cond (ltI s_1.2 (a_.length:Int))
 ((at? a_ s_1.2).bind fun e_9 =>
 (laws_heldIntS e_9.vars s_1.1).bind fun y_14 =>
 cond (ltI y_14 0)
 (some (.inr (.inl (-1))))
 ((at? a_ s_1.2).bind fun _ =>
 (laws_heldIntS e_9.reach y_14).bind fun y_23 =>
 cond (ltI y_23 0)
 (some (.inr (.inl (-1))))
 ((at? a_ s_1.2).bind fun _ =>
 cond (neI e_9.shared y_23)
 (some (.inr (.inl (-1))))
 ((at? a_ s_1.2).bind fun _ =>
 cond (neI e_9.many (addI y_23 1))
 (some (.inr (.inl (-1))))
 (some (.inl (addI (addI y_23 1) 1,addI s_1.2 1)))))))
 (some (.inr (.inr s_1.1)))) (k_,0)).bind fun r_39 =>
 Sum.elim (fun r_39 =>
 some r_39)
 (fun r_39 =>
 some r_39) r_39

def laws_heldStructureS (a_:(List TStructure)) (k_:Int):Option (Int) :=
 (iter (ρ:=(Int) ⊕ (Int)) (fun s_1:Int × Int =>
 cond (ltI s_1.2 (a_.length:Int))
 ((at? a_ s_1.2).bind fun e_9 =>
 (laws_heldNodeS e_9.nodes s_1.1).bind fun y_14 =>
 cond (ltI y_14 0)
 (some (.inr (.inl (-1))))
 ((at? a_ s_1.2).bind fun _ =>
 (laws_heldIntS e_9.next y_14).bind fun y_23 =>
 cond (ltI y_23 0)
 (some (.inr (.inl (-1))))
 (some (.inl (y_23,addI s_1.2 1)))))
 (some (.inr (.inr s_1.1)))) (k_,0)).bind fun r_27 =>
 Sum.elim (fun r_27 =>
 some r_27)
 (fun r_27 =>
 some r_27) r_27

def laws_FnExactAddToSet (aSet:(List TStructure)) (aS:TStructure):Option (Bool) :=
 (laws_szStructureS aSet 1048576).bind fun y_1 =>
 cond (ltI y_1 0)
 (some true)
 ((laws_szStructure aS y_1).bind fun y_5 =>
 cond (ltI y_5 0)
 (some true)
 ((laws_toStructureS aSet).bind fun y_9 =>
 (laws_toStructure aS).bind fun y_12 =>
 (zdi y_9 y_12).bind fun y_15 =>
 (laws_toStructureS aSet).bind fun _ =>
 (laws_toStructure aS).bind fun _ =>
 (zcx y_9 y_12).bind fun y_22 =>
 (laws_eqStructureS y_22 y_15).bind fun y_25 =>
 cond y_25
 ((laws_toStructureS aSet).bind fun _ =>
 (laws_eqStructureS y_9 y_9).bind fun y_31 =>
 cond y_31
 ((laws_toStructure aS).bind fun _ =>
 (laws_eqStructure y_12 y_12).bind fun y_37 =>
 cond y_37
 ((markO zan y_9 1).bind fun r_41 =>
 (markO zfn y_12 r_41.2).bind fun r_63 =>
 cond (ltI r_63.2 0)
 (some false)
 ((laws_eqStructureS y_22 y_15).bind fun y_85 =>
 cond y_85
 ((markO zan y_22 1).bind fun r_89 =>
 (laws_heldStructureS r_89.1 1).bind fun y_110 =>
 cond (ltI y_110 0)
 (some false)
 (cond (neI y_110 r_89.2)
 (some false)
 ((laws_toStructureS aSet).bind fun y_115 =>
 (laws_toStructure aS).bind fun y_118 =>
 (zcx y_115 y_118).bind fun y_121 =>
 (laws_eqStructureS y_121 y_15).bind fun y_124 =>
 cond y_124
 ((laws_heldStructureS r_89.1 1).bind fun _ =>
 some true)
 (some false))))
 (some false)))
 (some false))
 (some false))
 (some false)))

def znb (set:(List TStructure)):Option ((List TStructure)) :=
 (iter (ρ:=(List TStructure)) (fun s_1:(List TStructure) × Int =>
 cond (ltI s_1.2 (set.length:Int))
 ((at? set s_1.2).bind fun e_9 =>
 (zbt e_9).bind fun y_14 =>
 (room (s_1.1.length + [y_14].length) 48).bind fun _ =>
 some (.inl (s_1.1 ++ [y_14],addI s_1.2 1)))
 (some (.inr s_1.1))) ([],0)).bind fun r_19 =>
 some r_19

def zhz (a_:(List TStructure)) (b_:(List TStructure)):Option ((List TStructure)) :=
 (znb a_).bind fun y_1 =>
 (iter (ρ:=(List TStructure)) (fun s_4:(List TStructure) × Int =>
 cond (ltI s_4.2 (b_.length:Int))
 ((at? b_ s_4.2).bind fun e_12 =>
 (zdi s_4.1 e_12).bind fun y_17 =>
 some (.inl (y_17,addI s_4.2 1)))
 (some (.inr s_4.1))) (y_1,0)).bind fun r_20 =>
 some r_20

def zgt (a_:(List TStructure)) (b_:(List TStructure)):Option ((List TStructure)) :=
 (zff a_).bind fun y_1 =>
 (iter (ρ:=(List TStructure)) (fun s_4:(List TStructure) × Int =>
 cond (ltI s_4.2 (b_.length:Int))
 ((at? b_ s_4.2).bind fun e_12 =>
 (zcx s_4.1 e_12).bind fun y_18 =>
 some (.inl (y_18,addI s_4.2 1)))
 (some (.inr s_4.1))) (y_1,0)).bind fun r_21 =>
 some r_21

def laws_FnExactUniteSets (aA:(List TStructure)) (aB:(List TStructure)):Option (Bool) :=
 (laws_szStructureS aA 1048576).bind fun y_1 =>
 cond (ltI y_1 0)
 (some true)
 ((laws_szStructureS aB y_1).bind fun y_5 =>
 cond (ltI y_5 0)
 (some true)
 ((laws_toStructureS aA).bind fun y_9 =>
 (laws_toStructureS aB).bind fun y_12 =>
 (zhz y_9 y_12).bind fun y_15 =>
 (laws_toStructureS aA).bind fun _ =>
 (laws_toStructureS aB).bind fun _ =>
 (zgt y_9 y_12).bind fun y_22 =>
 (laws_eqStructureS y_22 y_15).bind fun y_25 =>
 cond y_25
 ((laws_toStructureS aA).bind fun _ =>
 (laws_eqStructureS y_9 y_9).bind fun y_31 =>
 cond y_31
 ((laws_toStructureS aB).bind fun _ =>
 (laws_eqStructureS y_12 y_12).bind fun y_37 =>
 cond y_37
 ((markO zan y_9 1).bind fun r_41 =>
 (markO zan y_12 r_41.2).bind fun r_61 =>
 cond (ltI r_61.2 0)
 (some false)
 ((laws_eqStructureS y_22 y_15).bind fun y_81 =>
 cond y_81
 ((markO zan y_22 1).bind fun r_85 =>
 (laws_heldStructureS r_85.1 1).bind fun y_104 =>
 cond (ltI y_104 0)
 (some false)
 (cond (neI y_104 r_85.2)
 (some false)
 ((laws_toStructureS aA).bind fun y_109 =>
 (laws_toStructureS aB).bind fun y_112 =>
 (zgt y_109 y_112).bind fun y_115 =>
 (laws_eqStructureS y_115 y_15).bind fun y_118 =>
 cond y_118
 ((laws_heldStructureS r_85.1 1).bind fun _ =>
 some true)
 (some false))))
 (some false)))
 (some false))
 (some false))
 (some false)))

def laws_szHeap (a_:THeap) (left:Int):Option (Int) :=
 (laws_szIntS a_.vars left).bind fun y_1 =>
 cond (ltI y_1 0)
 (some (-1))
 ((laws_szIntS a_.next y_1).bind fun y_5 =>
 cond (ltI y_5 0)
 (some (-1))
 (some y_5))

def laws_szHeapS (a_:(List THeap)) (left:Int):Option (Int) :=
 cond (ltI (subI left (a_.length:Int)) 0)
 (some (-1))
 ((iter (ρ:=(Int) ⊕ (Int)) (fun s_2:Int × Int =>
 cond (ltI s_2.2 (a_.length:Int))
 ((at? a_ s_2.2).bind fun e_10 =>
 (laws_szHeap e_10 s_2.1).bind fun y_15 =>
 cond (ltI y_15 0)
 (some (.inr (.inl (-1))))
 (some (.inl (y_15,addI s_2.2 1))))
 (some (.inr (.inr s_2.1)))) (subI left (a_.length:Int),0)).bind fun r_19 =>
 Sum.elim (fun r_19 =>
 some r_19)
 (fun r_19 =>
 some r_19) r_19)

def laws_toHeap (a_:THeap):Option (THeap) :=
 (laws_toIntS a_.vars).bind fun y_1 =>
 (laws_toIntS a_.next).bind fun y_4 =>
 some (⟨y_1,y_4⟩:THeap)

def laws_toHeapS (a_:(List THeap)):Option ((List THeap)) :=
 (roomI (a_.length:Int) 48).bind fun _ =>
 (iter (ρ:=(List THeap)) (fun s_5:Int × (List THeap) =>
 cond (ltI s_5.1 (a_.length:Int))
 ((at? a_ s_5.1).bind fun e_13 =>
 (laws_toHeap e_13).bind fun y_18 =>
 (at? s_5.2 s_5.1).bind fun e_21 =>
 some (.inl (addI s_5.1 1,s_5.2.set s_5.1.toNat y_18)))
 (some (.inr s_5.2))) (0,List.replicate (a_.length:Int).toNat ((⟨[],[]⟩:THeap):THeap))).bind fun r_27 =>
 some r_27

def zfa (h_:THeap):Option (Bool) :=
 (iter (ρ:=(Unit) ⊕ (Unit)) (fun s_1:Int =>
 cond (ltI s_1 (h_.vars.length:Int))
 ((at? h_.vars s_1).bind fun e_9 =>
 (zbe e_9 (-1) (subI (h_.next.length:Int) 1)).bind fun y_14 =>
 cond y_14
 (some (.inl (addI s_1 1)))
 (some (.inr (.inl ()))))
 (some (.inr (.inr ())))) 0).bind fun r_18 =>
 Sum.elim (fun _r_18 =>
 some false)
 (fun _r_18 =>
 (iter (ρ:=(Bool) ⊕ (Unit)) (fun s_26:Int =>
 cond (ltI s_26 (h_.next.length:Int))
 ((at? h_.next s_26).bind fun e_34 =>
 (zbe e_34 (-1) (subI (h_.next.length:Int) 1)).bind fun y_39 =>
 cond y_39
 (some (.inl (addI s_26 1)))
 (some (.inr (.inl false))))
 (some (.inr (.inr ())))) 0).bind fun r_43 =>
 Sum.elim (fun r_43 =>
 some r_43)
 (fun _r_43 =>
 some true) r_43) r_18

def zcu (list:(List Int)) (n_:Int):Option ((List Int)) :=
 (iter (ρ:=(List Int)) (fun s_1:(List Int) × Int =>
 cond (ltI s_1.2 (list.length:Int))
 ((at? list s_1.2).bind fun e_9 =>
 cond (eqI e_9 n_)
 ((room (s_1.1.length + [s_1.2].length) 8).bind fun _ =>
 some (.inl (s_1.1 ++ [s_1.2],addI s_1.2 1)))
 (some (.inl (s_1.1,addI s_1.2 1))))
 (some (.inr s_1.1))) ([],0)).bind fun r_17 =>
 some r_17

def zgc (on:Bool):Option (Int) :=
 cond on
 (some 2)
 (some 0)

def zfj (list:(List Int)) (n_:Int):Option (Bool) :=
 (zcu list n_).bind fun y_1 =>
 some (ltI 0 (y_1.length:Int))

def zeo (h_:THeap) (cell:Int):Option ((List Int)) :=
 (iter (ρ:=((List Int)) ⊕ (Unit)) (fun s_1:Int × (List Int) =>
 cond (neI s_1.1 (-1))
 ((zfj s_1.2 s_1.1).bind fun y_9 =>
 cond y_9
 (some (.inr (.inl s_1.2)))
 ((zbe s_1.1 0 (subI (h_.next.length:Int) 1)).bind fun y_13 =>
 cond y_13
 ((room (s_1.2.length + [s_1.1].length) 8).bind fun _ =>
 (at? h_.next s_1.1).bind fun e_19 =>
 some (.inl (e_19,s_1.2 ++ [s_1.1])))
 (some (.inr (.inr ())))))
 (some (.inr (.inl s_1.2)))) (cell,[])).bind fun r_24 =>
 Sum.elim (fun r_24 =>
 some r_24)
 (fun _r_24 =>
 some []) r_24

def zdc (h_:THeap):Option (TStructure) :=
 (zfa h_).bind fun y_1 =>
 cond y_1
 (cond (ltI 10 (h_.next.length:Int))
 (some (⟨[],[]⟩:TStructure))
 ((zbe (h_.vars.length:Int) 1 4).bind fun y_6 =>
 cond y_6
 ((iter (ρ:=(List TNode) × (List Int)) (fun s_10:Int × (List TNode) × (List Int) =>
 cond (ltI s_10.1 (h_.next.length:Int))
 ((zcu h_.next s_10.1).bind fun y_18 =>
 (zgc (ltI 1 (y_18.length:Int))).bind fun y_21 =>
 (iter (ρ:=(List Int) × (List Int)) (fun s_25:Int × (List Int) × (List Int) =>
 cond (ltI s_25.1 (h_.vars.length:Int))
 ((at? h_.vars s_25.1).bind fun e_33 =>
 (zgc (eqI e_33 s_10.1)).bind fun y_38 =>
 (room (s_25.2.1.length + [y_38].length) 8).bind fun _ =>
 (at? h_.vars s_25.1).bind fun _ =>
 (zeo h_ e_33).bind fun y_48 =>
 (zfj y_48 s_10.1).bind fun y_51 =>
 (zgc y_51).bind fun y_54 =>
 (room (s_25.2.2.length + [y_54].length) 8).bind fun _ =>
 some (.inl (addI s_25.1 1,s_25.2.1 ++ [y_38],s_25.2.2 ++ [y_54])))
 (some (.inr (s_25.2.1,s_25.2.2)))) (0,[],[])).bind fun r_59 =>
 (room (s_10.2.1.length + [(⟨r_59.1,r_59.2,y_21,0⟩:TNode)].length) 64).bind fun _ =>
 (iter (ρ:=(List Int)) (fun s_66:Int × (List Int) =>
 cond (ltI s_66.1 (h_.next.length:Int))
 ((at? h_.next s_10.1).bind fun e_74 =>
 (zgc (eqI e_74 s_66.1)).bind fun y_79 =>
 (room (s_66.2.length + [y_79].length) 8).bind fun _ =>
 some (.inl (addI s_66.1 1,s_66.2 ++ [y_79])))
 (some (.inr s_66.2))) (0,s_10.2.2)).bind fun r_84 =>
 some (.inl (addI s_10.1 1,s_10.2.1 ++ [(⟨r_59.1,r_59.2,y_21,0⟩:TNode)],r_84)))
 (some (.inr (s_10.2.1,s_10.2.2)))) (0,[],[])).bind fun r_89 =>
 some (⟨r_89.1,r_89.2⟩:TStructure))
 (some (⟨[],[]⟩:TStructure))))
 (some (⟨[],[]⟩:TStructure))

def zcb (h_:THeap):Option (TStructure) :=
 (zdc h_).bind fun y_1 =>
 (zgv y_1).bind fun y_4 =>
 some y_4

def zde (list:(List THeap)):Option ((List TStructure)) :=
 (iter (ρ:=(List TStructure)) (fun s_1:(List TStructure) × Int =>
 cond (ltI s_1.2 (list.length:Int))
 ((at? list s_1.2).bind fun e_9 =>
 (zcb e_9).bind fun y_14 =>
 (zdi s_1.1 y_14).bind fun y_17 =>
 some (.inl (y_17,addI s_1.2 1)))
 (some (.inr s_1.1))) ([],0)).bind fun r_20 =>
 some r_20

def zbc (h_:THeap) (n_:Int):Option (Bool) :=
 (zbd n_ 0 (subI (h_.next.length:Int) 1)).bind fun y_1 =>
 some y_1

def zbk (n_:Int) (c0:THeap):Option (Bool) :=
 cond (neI n_ (-1))
 ((zbc c0 n_).bind fun y_2 =>
 some (notB y_2))
 (some false)

def zcd (h_:THeap):Option (Bool) :=
 (zdo [h_.vars,h_.next]).bind fun y_1 =>
 (zbb y_1 (fun x0=>zbk x0 h_)).bind fun y_4 =>
 some (notB y_4)

def zeu (list:(List Int)) (n_:Int):Option ((List Int)) :=
 (iter (ρ:=(List Int)) (fun s_1:(List Int) × Int =>
 cond (ltI s_1.2 (list.length:Int))
 ((at? list s_1.2).bind fun e_9 =>
 cond (eqI e_9 n_)
 ((room (s_1.1.length + [s_1.2].length) 8).bind fun _ =>
 some (.inl (s_1.1 ++ [s_1.2],addI s_1.2 1)))
 (some (.inl (s_1.1,addI s_1.2 1))))
 (some (.inr s_1.1))) ([],0)).bind fun r_17 =>
 some r_17

def zdy (b_:Bool):Option (Int) :=
 cond b_
 (some 2)
 (some 0)

def zdf (s:(List Int)) (v:Int):Option (Int) :=
 (iter (ρ:=(Int) ⊕ (Unit)) (fun s_1:Int =>
 cond (ltI s_1 (s.length:Int))
 ((at? s s_1).bind fun e_9 =>
 cond (eqI v e_9)
 (some (.inr (.inl s_1)))
 (some (.inl (addI s_1 1))))
 (some (.inr (.inr ())))) 0).bind fun r_15 =>
 Sum.elim (fun r_15 =>
 some r_15)
 (fun _r_15 =>
 some (-1)) r_15

def zaq (s:(List Int)) (v:Int):Option (Bool) :=
 (zdf s v).bind fun y_1 =>
 some (leI 0 y_1)

def zer (h_:THeap) (cell:Int):Option ((List Int)) :=
 (iter (ρ:=((List Int)) ⊕ (Unit)) (fun s_1:(List Int) × Int =>
 cond (neI s_1.2 (-1))
 ((zbc h_ s_1.2).bind fun y_9 =>
 cond y_9
 ((zaq s_1.1 s_1.2).bind fun y_13 =>
 cond y_13
 (some (.inr (.inl s_1.1)))
 ((room (s_1.1.length + [s_1.2].length) 8).bind fun _ =>
 (at? h_.next s_1.2).bind fun e_19 =>
 some (.inl (s_1.1 ++ [s_1.2],e_19))))
 (some (.inr (.inr ()))))
 (cond (eqI cell (-1))
 ((zbc h_ s_1.2).bind fun y_25 =>
 cond y_25
 ((zaq s_1.1 s_1.2).bind fun y_29 =>
 cond y_29
 (some (.inr (.inl s_1.1)))
 ((room (s_1.1.length + [s_1.2].length) 8).bind fun _ =>
 (at? h_.next s_1.2).bind fun e_35 =>
 some (.inl (s_1.1 ++ [s_1.2],e_35))))
 (some (.inr (.inr ()))))
 (some (.inr (.inl s_1.1))))) ([],cell)).bind fun r_40 =>
 Sum.elim (fun r_40 =>
 some r_40)
 (fun _r_40 =>
 some []) r_40

def zdg (h_:THeap):Option (TStructure) :=
 (zcd h_).bind fun y_1 =>
 cond y_1
 (cond (ltI 10 (h_.next.length:Int))
 (some (⟨[],[]⟩:TStructure))
 ((zbd (h_.vars.length:Int) 1 4).bind fun y_6 =>
 cond y_6
 ((iter (ρ:=(List TNode) × (List Int)) (fun s_10:Int × (List TNode) × (List Int) =>
 cond (ltI s_10.1 (h_.next.length:Int))
 ((zeu h_.next s_10.1).bind fun y_18 =>
 (zdy (ltI 1 (y_18.length:Int))).bind fun y_21 =>
 (iter (ρ:=(List Int) × (List Int)) (fun s_25:Int × (List Int) × (List Int) =>
 cond (ltI s_25.1 (h_.vars.length:Int))
 ((at? h_.vars s_25.1).bind fun e_33 =>
 (zdy (eqI e_33 s_10.1)).bind fun y_38 =>
 (room (s_25.2.1.length + [y_38].length) 8).bind fun _ =>
 (zer h_ e_33).bind fun y_43 =>
 (zaq y_43 s_10.1).bind fun y_46 =>
 (zdy y_46).bind fun y_49 =>
 (room (s_25.2.2.length + [y_49].length) 8).bind fun _ =>
 some (.inl (addI s_25.1 1,s_25.2.1 ++ [y_38],s_25.2.2 ++ [y_49])))
 (some (.inr (s_25.2.1,s_25.2.2)))) (0,[],[])).bind fun r_54 =>
 (room (s_10.2.1.length + [(⟨r_54.1,r_54.2,y_21,0⟩:TNode)].length) 64).bind fun _ =>
 (iter (ρ:=(List Int)) (fun s_61:Int × (List Int) =>
 cond (ltI s_61.1 (h_.next.length:Int))
 ((at? h_.next s_10.1).bind fun e_69 =>
 (zdy (eqI e_69 s_61.1)).bind fun y_74 =>
 (room (s_61.2.length + [y_74].length) 8).bind fun _ =>
 some (.inl (addI s_61.1 1,s_61.2 ++ [y_74])))
 (some (.inr s_61.2))) (0,s_10.2.2)).bind fun r_79 =>
 some (.inl (addI s_10.1 1,s_10.2.1 ++ [(⟨r_54.1,r_54.2,y_21,0⟩:TNode)],r_79)))
 (some (.inr (s_10.2.1,s_10.2.2)))) (0,[],[])).bind fun r_84 =>
 some (⟨r_84.1,r_84.2⟩:TStructure))
 (some (⟨[],[]⟩:TStructure))))
 (some (⟨[],[]⟩:TStructure))

def zce (h_:THeap):Option (TStructure) :=
 (zdg h_).bind fun y_1 =>
 (zgy y_1).bind fun y_4 =>
 some y_4

def zcm (list:(List THeap)):Option ((List TStructure)) :=
 (iter (ρ:=(List TStructure)) (fun s_1:(List TStructure) × Int =>
 cond (ltI s_1.2 (list.length:Int))
 ((at? list s_1.2).bind fun e_9 =>
 (zce e_9).bind fun y_15 =>
 (zcx s_1.1 y_15).bind fun y_18 =>
 some (.inl (y_18,addI s_1.2 1)))
 (some (.inr s_1.1))) ([],0)).bind fun r_21 =>
 some r_21

def laws_eqHeap (a_:THeap) (b_:THeap):Option (Bool) :=
 (laws_eqIntS a_.vars b_.vars).bind fun y_1 =>
 cond y_1
 ((laws_eqIntS a_.next b_.next).bind fun y_5 =>
 cond y_5
 (some true)
 (some false))
 (some false)

def laws_eqHeapS (a_:(List THeap)) (b_:(List THeap)):Option (Bool) :=
 cond (neI (a_.length:Int) (b_.length:Int))
 (some false)
 ((iter (ρ:=(Unit) ⊕ (Unit)) (fun s_2:Int =>
 cond (ltI s_2 (a_.length:Int))
 ((at? a_ s_2).bind fun e_10 =>
 (at? b_ s_2).bind fun e_15 =>
 (laws_eqHeap e_10 e_15).bind fun y_20 =>
 cond y_20
 (some (.inl (addI s_2 1)))
 (some (.inr (.inl ()))))
 (some (.inr (.inr ())))) 0).bind fun r_24 =>
 Sum.elim (fun _r_24 =>
 some false)
 (fun _r_24 =>
 some true) r_24)

def laws_FnExactAbstractAll (aList:(List THeap)):Option (Bool) :=
 (laws_szHeapS aList 1048576).bind fun y_1 =>
 cond (ltI y_1 0)
 (some true)
 ((laws_toHeapS aList).bind fun y_5 =>
 (zde y_5).bind fun y_8 =>
 (laws_toHeapS aList).bind fun _ =>
 (zcm y_5).bind fun y_13 =>
 (laws_eqStructureS y_13 y_8).bind fun y_16 =>
 cond y_16
 ((laws_toHeapS aList).bind fun _ =>
 (laws_eqHeapS y_5 y_5).bind fun y_22 =>
 cond y_22
 ((markO zhd y_5 1).bind fun r_26 =>
 cond (ltI r_26.2 0)
 (some false)
 ((laws_eqStructureS y_13 y_8).bind fun y_45 =>
 cond y_45
 ((markO zan y_13 1).bind fun r_49 =>
 (laws_heldStructureS r_49.1 1).bind fun y_67 =>
 cond (ltI y_67 0)
 (some false)
 (cond (neI y_67 r_49.2)
 (some false)
 ((laws_toHeapS aList).bind fun y_72 =>
 (zcm y_72).bind fun y_75 =>
 (laws_eqStructureS y_75 y_8).bind fun y_78 =>
 cond y_78
 ((laws_heldStructureS r_49.1 1).bind fun _ =>
 some true)
 (some false))))
 (some false)))
 (some false))
 (some false))

end Go.Ev


namespace Go.Ev
open Wf (wf)
open Sm (sm lg)
theorem szIntS_ok {a:(List Int)} {left:Int} (hw:wf a) (hl:0≤left∧left≤1048576):SzOK (laws_szIntS a left) (sm a):=by
 unfold laws_szIntS
 have h:=(wf_list hw).1
 rw [zec (by omega) (by omega),zdr]
 by_cases h:left - (a.length:Int) < 0
 ·rw [if_pos h];exact ⟨-1,rfl,by omega,by omega,by omega⟩
 ·rw [if_neg h];exact ⟨_,rfl,by omega,fun _=>⟨by omega,fun _ _=>trivial⟩,by omega⟩
theorem toIntS_ok {a:(List Int)} (h:sm a):laws_toIntS a=some a:=by
 refine toRow (fun x=>some x) (zow (fun _ _=>rfl)) (sm_len h) (b:=8) (by omega) (fun i x y o hi hx hy ho=>?_) (fun o=>?_) (by unfold laws_toIntS;rfl)
 ·obtain ⟨q,hq⟩:=ho
  cases hy
  simp only [zdr,zcn,hx,hq,Int.ofNat_lt,hi,if_true,Option.bind_some,Int.toNat_natCast]
 ·simp [zdr]
theorem zjq {a b:(List Int)} (h:lg a):laws_eqIntS a b=some (decide (a=b)):=by
 refine eqRow (lg_le h) (fun i x y hi hx hy=>?_) ?_ (by unfold laws_eqIntS;rfl)
 ·simp only [zdr,zpi,zcn,hx,hy,Option.bind_some,Int.ofNat_lt,hi,if_true]
  by_cases he:x=y <;> simp [he]
 ·simp [zdr]
theorem eqNode_ok {a b:TNode} (h:lg a):laws_eqNode a b=some (decide (a=b)):=by
 unfold laws_eqNode
 rw [zjq h.1,zjq h.2]
 rcases a with ⟨a0,a1,a2,a3⟩
 rcases b with ⟨b0,b1,b2,b3⟩
 simp only [Option.bind_some,zai,zpi,neS_dec,zet,TNode.mk.injEq]
 by_cases h0:a0=b0 <;> by_cases h1:a1=b1 <;> by_cases h2:a2=b2 <;> by_cases h3:a3=b3 <;> simp [h0,h1,h2,h3]
theorem eqNodeS_ok {a b:(List TNode)} (h:lg a):laws_eqNodeS a b=some (decide (a=b)):=by
 refine eqRow (lg_le h) (fun i x y hi hx hy=>?_) ?_ (by unfold laws_eqNodeS;rfl)
 ·simp only [zdr,eqNode_ok (lg_mem h hx),zai,zcn,hx,hy,Option.bind_some,Int.ofNat_lt,hi,if_true]
  by_cases he:x=y <;> simp [he]
 ·simp [zdr]
theorem zps {a b:TStructure} (h:lg a):laws_eqStructure a b=some (decide (a=b)):=by
 unfold laws_eqStructure
 rw [eqNodeS_ok h.1,zjq h.2]
 rcases a with ⟨a0,a1⟩
 rcases b with ⟨b0,b1⟩
 simp only [Option.bind_some,zai,zpi,neS_dec,zet,TStructure.mk.injEq]
 by_cases h0:a0=b0 <;> by_cases h1:a1=b1 <;> simp [h0,h1]
theorem zph {a b:(List TStructure)} (h:lg a):laws_eqStructureS a b=some (decide (a=b)):=by
 refine eqRow (lg_le h) (fun i x y hi hx hy=>?_) ?_ (by unfold laws_eqStructureS;rfl)
 ·simp only [zdr,zps (lg_mem h hx),zai,zcn,hx,hy,Option.bind_some,Int.ofNat_lt,hi,if_true]
  by_cases he:x=y <;> simp [he]
 ·simp [zdr]
theorem szHeap_ok {a:THeap} {left:Int} (hw:wf a) (hl:0≤left∧left≤1048576):SzOK (laws_szHeap a left) (sm a):=(szIntS_ok hw.1 hl).two fun n0 hn0=>(szIntS_ok hw.2 hn0).last
theorem szHeapS_ok {a:(List THeap)} {left:Int} (hw:wf a) (hl:0≤left∧left≤1048576):SzOK (laws_szHeapS a left) (sm a):=by
 refine szRow laws_szHeap hl (wf_list hw).1 (fun x hx l hl=>szHeap_ok ((wf_list hw).2 x hx) hl) (fun i x l n hi hx hn=>?_) (fun l=>?_) (by unfold laws_szHeapS;rfl)
 ·simp only [zdr,zcn,hx,hn,Int.ofNat_lt,hi,if_true,Option.bind_some]
  split <;> rfl
 ·simp [zdr]
theorem toHeap_ok {a:THeap} (h:sm a):laws_toHeap a=some a:=by
 unfold laws_toHeap
 rw [toIntS_ok h.1,toIntS_ok h.2]
 rfl
theorem toHeapS_ok {a:(List THeap)} (h:sm a):laws_toHeapS a=some a:=by
 refine toRow (laws_toHeap) (zow (fun x hx=>toHeap_ok (h.2 x hx))) (sm_len h) (b:=48) (by omega) (fun i x y o hi hx hy ho=>?_) (fun o=>?_) (by unfold laws_toHeapS;rfl)
 ·obtain ⟨q,hq⟩:=ho
  simp only [zdr,zcn,hx,hq,hy,Int.ofNat_lt,hi,if_true,Option.bind_some,Int.toNat_natCast]
 ·simp [zdr]
theorem eqHeap_ok {a b:THeap} (h:lg a):laws_eqHeap a b=some (decide (a=b)):=by
 unfold laws_eqHeap
 rw [zjq h.1,zjq h.2]
 rcases a with ⟨a0,a1⟩
 rcases b with ⟨b0,b1⟩
 simp only [Option.bind_some,zai,zpi,neS_dec,zet,THeap.mk.injEq]
 by_cases h0:a0=b0 <;> by_cases h1:a1=b1 <;> simp [h0,h1]
theorem eqHeapS_ok {a b:(List THeap)} (h:lg a):laws_eqHeapS a b=some (decide (a=b)):=by
 refine eqRow (lg_le h) (fun i x y hi hx hy=>?_) ?_ (by unfold laws_eqHeapS;rfl)
 ·simp only [zdr,eqHeap_ok (lg_mem h hx),zai,zcn,hx,hy,Option.bind_some,Int.ofNat_lt,hi,if_true]
  by_cases he:x=y <;> simp [he]
 ·simp [zdr]
end Go.Ev


namespace Go.Ev
theorem ziz (x:Int) (k:Int) (hk:0≤k) (hb:k+zfp x≤maxMark):(zel x k).2=k+zfp x:=by
 unfold zfp maxMark at *
 unfold zel
 have h0:addI k 1=k+1:=zam (by omega) (by omega)
 simp only
 omega
theorem zem (xs:List Int) (k:Int) (hk:0≤k) (hb:k+zbi xs≤maxMark):(zae xs k).2=k+zbi xs:=zji ziz xs k hk hb
theorem zky {xs:List Int} {k0:Int} (hl:Sm.lg xs) (hk:0≤k0) (hb:k0+zbi xs≤maxMark):laws_heldIntS (zae xs k0).1 k0=some (zae xs k0).2:=by
 unfold laws_heldIntS
 have hlg:∀ x∈xs,Sm.lg x:=hl.2
 rw [zry (ys:=(zae xs k0).1) (E:=zel) (cnt:=zfp) (xs:=xs) ziz (fun i x k hx0 hi hx hk hb=>?_) (fun k=>by simp [zdr]) rfl (by have:=hl.1;omega) hk hb]
 ·rfl
 ·have e0:at? (zae xs k0).1 (i:Int)=some (zel x k).1:=by rw [zcn];exact hx
  unfold zfp maxMark at hb
  have h0:addI k 1=k+1:=zam (by omega) (by omega)
  have hc:ltI (i:Int) ((zae xs k0).1.length:Int)=true:=by simpa [ltI] using hi
  simp only [hc,e0,zel,cond_true,cond_false,Option.bind_some,neI,decide_true,Bool.not_true,]
theorem zih (x:TNode) (k:Int) (hk:0≤k) (hb:k+zdn x≤maxMark):(zdx x k).2=k+zdn x:=by
 unfold zdn maxMark at *
 unfold zdx
 have h0:=zem x.vars k (by omega) (by unfold maxMark;omega)
 have h1:=zem x.reach ((zae x.vars k).2) (by omega) (by unfold maxMark;omega)
 have h2:addI ((zae x.reach ((zae x.vars k).2)).2) 1=((zae x.reach ((zae x.vars k).2)).2)+1:=zam (by omega) (by omega)
 have h3:addI (addI ((zae x.reach ((zae x.vars k).2)).2) 1) 1=(addI ((zae x.reach ((zae x.vars k).2)).2) 1)+1:=zam (by omega) (by omega)
 simp only
 omega
theorem zls (xs:List TNode) (k:Int) (hk:0≤k) (hb:k+zev xs≤maxMark):(zaj xs k).2=k+zev xs:=zji zih xs k hk hb
theorem heldNodeS_ok {xs:List TNode} {k0:Int} (hl:Sm.lg xs) (hk:0≤k0) (hb:k0+zev xs≤maxMark):laws_heldNodeS (zaj xs k0).1 k0=some (zaj xs k0).2:=by
 unfold laws_heldNodeS
 have hlg:∀ x∈xs,Sm.lg x:=hl.2
 rw [zry (ys:=(zaj xs k0).1) (E:=zdx) (cnt:=zdn) (xs:=xs) zih (fun i x k hx0 hi hx hk hb=>?_) (fun k=>by simp [zdr]) rfl (by have:=hl.1;omega) hk hb]
 ·rfl
 ·have e0:at? (zaj xs k0).1 (i:Int)=some (zdx x k).1:=by rw [zcn];exact hx
  unfold zdn maxMark at hb
  have h0:=zem x.vars k (by omega) (by unfold maxMark;omega)
  have w0:=zky (xs:=x.vars) (k0:=k) (hl.2 x hx0).1 (by omega) (by unfold maxMark;omega)
  have n0:ltI (zae x.vars k).2 0=false:=by simp only [ltI,decide_eq_false_iff_not];omega
  have h1:=zem x.reach ((zae x.vars k).2) (by omega) (by unfold maxMark;omega)
  have w1:=zky (xs:=x.reach) (k0:=(zae x.vars k).2) (hl.2 x hx0).2 (by omega) (by unfold maxMark;omega)
  have n1:ltI (zae x.reach ((zae x.vars k).2)).2 0=false:=by simp only [ltI,decide_eq_false_iff_not];omega
  have h2:addI ((zae x.reach ((zae x.vars k).2)).2) 1=((zae x.reach ((zae x.vars k).2)).2)+1:=zam (by omega) (by omega)
  have h3:addI (addI ((zae x.reach ((zae x.vars k).2)).2) 1) 1=(addI ((zae x.reach ((zae x.vars k).2)).2) 1)+1:=zam (by omega) (by omega)
  have hc:ltI (i:Int) ((zaj xs k0).1.length:Int)=true:=by simpa [ltI] using hi
  simp only [hc,e0,zdx,cond_true,cond_false,Option.bind_some,neI,decide_true,Bool.not_true,w0,n0,w1,n1]
theorem zgi (x:TStructure) (k:Int) (hk:0≤k) (hb:k+zbs x≤maxMark):(zbn x k).2=k+zbs x:=by
 unfold zbs maxMark at *
 unfold zbn
 have h0:=zls x.nodes k (by omega) (by unfold maxMark;omega)
 have h1:=zem x.next ((zaj x.nodes k).2) (by omega) (by unfold maxMark;omega)
 simp only
 omega
theorem zlr (xs:List TStructure) (k:Int) (hk:0≤k) (hb:k+zdq xs≤maxMark):(zan xs k).2=k+zdq xs:=zji zgi xs k hk hb
theorem zmq {xs:List TStructure} {k0:Int} (hl:Sm.lg xs) (hk:0≤k0) (hb:k0+zdq xs≤maxMark):laws_heldStructureS (zan xs k0).1 k0=some (zan xs k0).2:=by
 unfold laws_heldStructureS
 have hlg:∀ x∈xs,Sm.lg x:=hl.2
 rw [zry (ys:=(zan xs k0).1) (E:=zbn) (cnt:=zbs) (xs:=xs) zgi (fun i x k hx0 hi hx hk hb=>?_) (fun k=>by simp [zdr]) rfl (by have:=hl.1;omega) hk hb]
 ·rfl
 ·have e0:at? (zan xs k0).1 (i:Int)=some (zbn x k).1:=by rw [zcn];exact hx
  unfold zbs maxMark at hb
  have h0:=zls x.nodes k (by omega) (by unfold maxMark;omega)
  have w0:=heldNodeS_ok (xs:=x.nodes) (k0:=k) (hl.2 x hx0).1 (by omega) (by unfold maxMark;omega)
  have n0:ltI (zaj x.nodes k).2 0=false:=by simp only [ltI,decide_eq_false_iff_not];omega
  have h1:=zem x.next ((zaj x.nodes k).2) (by omega) (by unfold maxMark;omega)
  have w1:=zky (xs:=x.next) (k0:=(zaj x.nodes k).2) (hl.2 x hx0).2 (by omega) (by unfold maxMark;omega)
  have n1:ltI (zae x.next ((zaj x.nodes k).2)).2 0=false:=by simp only [ltI,decide_eq_false_iff_not];omega
  have hc:ltI (i:Int) ((zan xs k0).1.length:Int)=true:=by simpa [ltI] using hi
  simp only [hc,e0,zbn,cond_true,cond_false,Option.bind_some,neI,decide_true,Bool.not_true,w0,n0,w1,n1]
theorem zmu (x:THeap) (k:Int) (hk:0≤k) (hb:k+zew x≤maxMark):(zgd x k).2=k+zew x:=by
 unfold zew maxMark at *
 unfold zgd
 have h0:=zem x.vars k (by omega) (by unfold maxMark;omega)
 have h1:=zem x.next ((zae x.vars k).2) (by omega) (by unfold maxMark;omega)
 simp only
 omega
theorem zrs (xs:List THeap) (k:Int) (hk:0≤k) (hb:k+zgu xs≤maxMark):(zhd xs k).2=k+zgu xs:=zji zmu xs k hk hb
end Go.Ev

