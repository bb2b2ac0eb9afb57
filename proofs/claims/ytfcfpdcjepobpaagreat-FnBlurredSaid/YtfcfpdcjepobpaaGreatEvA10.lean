import Derived.Test.YtfcfpdcjepobpaaGreatEvA7
import Derived.Test.YtfcfpdcjepobpaaGreatEvA8
import Derived.Test.YtfcfpdcjepobpaaGreatEvA9
set_option linter.unusedSimpArgs false
set_option linter.unusedVariables false
set_option linter.unnecessarySimpa false
noncomputable section
namespace Go.Ev
def zdn (s:(List (List Int))):Option (List Int):=zjc 8 s

def zcl (s:(List Int)):Option (List Int):=zkl 8 s

def laws_big (code:(List U8)):Option (Bool) :=
 some (ltI 1048576 (code.length:Int))

def zew (code:(List U8)):Option (TL1Cur) :=
 (iter (ρ:=Int) (fun s_1:Int × Int =>
 cond (ltI s_1.2 (code.length:Int))
 (cond (ltI s_1.2 4000)
 ((at? code s_1.2).bind fun e_10 =>
 some (.inl (andI (addI (addI (mulI s_1.1 131) (cvtI e_10.v)) 7) 1073741823,addI s_1.2 1)))
 (some (.inr s_1.1)))
 (some (.inr s_1.1))) (addI 26583 (code.length:Int),0)).bind fun r_15 =>
 some (⟨code,0,r_15⟩:TL1Cur)

def zbh (x_:Int) (lo:Int) (hi:Int):Option (Bool) :=
 cond (leI lo x_)
 (some (leI x_ hi))
 (some false)

def zdr (h_:THeap):Option (Bool) :=
 (iter (ρ:=(Unit) ⊕ (Unit)) (fun s_1:Int =>
 cond (ltI s_1 (h_.vars.length:Int))
 ((at? h_.vars s_1).bind fun e_9 =>
 (zbh e_9 (-1) (subI (h_.next.length:Int) 1)).bind fun y_14 =>
 cond y_14
 (some (.inl (addI s_1 1)))
 (some (.inr (.inl ()))))
 (some (.inr (.inr ())))) 0).bind fun r_18 =>
 Sum.elim (fun _r_18 =>
 some false)
 (fun _r_18 =>
 (iter (ρ:=(Bool) ⊕ (Unit)) (fun s_26:Int =>
 cond (ltI s_26 (h_.next.length:Int))
 ((at? h_.next s_26).bind fun e_34 =>
 (zbh e_34 (-1) (subI (h_.next.length:Int) 1)).bind fun y_39 =>
 cond y_39
 (some (.inl (addI s_26 1)))
 (some (.inr (.inl false))))
 (some (.inr (.inr ())))) 0).bind fun r_43 =>
 Sum.elim (fun r_43 =>
 some r_43)
 (fun _r_43 =>
 some true) r_43) r_18

def zca (list:(List Int)) (n_:Int):Option ((List Int)) :=
 (iter (ρ:=(List Int)) (fun s_1:(List Int) × Int =>
 cond (ltI s_1.2 (list.length:Int))
 ((at? list s_1.2).bind fun e_9 =>
 cond (eqI e_9 n_)
 ((room (s_1.1.length + [s_1.2].length) 8).bind fun _ =>
 some (.inl (s_1.1 ++ [s_1.2],addI s_1.2 1)))
 (some (.inl (s_1.1,addI s_1.2 1))))
 (some (.inr s_1.1))) ([],0)).bind fun r_17 =>
 some r_17

def zci (list:(List Int)) (n_:Int):Option (Bool) :=
 (zca list n_).bind fun y_1 =>
 some (ltI 0 (y_1.length:Int))

def zcu (h_:THeap) (cell:Int):Option ((List Int)) :=
 (iter (ρ:=((List Int)) ⊕ (Unit)) (fun s_1:Int × (List Int) =>
 cond (neI s_1.1 (-1))
 ((zci s_1.2 s_1.1).bind fun y_9 =>
 cond y_9
 (some (.inr (.inl s_1.2)))
 ((zbh s_1.1 0 (subI (h_.next.length:Int) 1)).bind fun y_13 =>
 cond y_13
 ((room (s_1.2.length + [s_1.1].length) 8).bind fun _ =>
 (at? h_.next s_1.1).bind fun e_19 =>
 some (.inl (e_19,s_1.2 ++ [s_1.1])))
 (some (.inr (.inr ())))))
 (some (.inr (.inl s_1.2)))) (cell,[])).bind fun r_24 =>
 Sum.elim (fun r_24 =>
 some r_24)
 (fun _r_24 =>
 some []) r_24

def zel (h_:THeap):Option ((List Int)) :=
 (iter (ρ:=(List Int)) (fun s_1:(List Int) × Int =>
 cond (ltI s_1.2 (h_.vars.length:Int))
 ((at? h_.vars s_1.2).bind fun e_9 =>
 (zcu h_ e_9).bind fun y_14 =>
 (iter (ρ:=(List Int)) (fun s_17:Int × (List Int) =>
 cond (ltI s_17.1 (y_14.length:Int))
 ((at? y_14 s_17.1).bind fun e_25 =>
 (zci s_17.2 e_25).bind fun y_30 =>
 cond y_30
 (some (.inl (addI s_17.1 1,s_17.2)))
 ((at? y_14 s_17.1).bind fun _ =>
 (room (s_17.2.length + [e_25].length) 8).bind fun _ =>
 some (.inl (addI s_17.1 1,s_17.2 ++ [e_25]))))
 (some (.inr s_17.2))) (0,s_1.1)).bind fun r_41 =>
 some (.inl (r_41,addI s_1.2 1)))
 (some (.inr s_1.1))) ([],0)).bind fun r_46 =>
 some r_46

def zev (order:(List Int)) (cell:Int):Option (Int) :=
 (zca order cell).bind fun y_1 =>
 cond (eqI (y_1.length:Int) 0)
 (some (-1))
 ((at? y_1 0).bind fun e_5 =>
 some e_5)

def zec (h_:THeap):Option (THeap) :=
 (zdr h_).bind fun y_1 =>
 cond y_1
 ((zel h_).bind fun y_5 =>
 (iter (ρ:=(List Int)) (fun s_8:Int × (List Int) =>
 cond (ltI s_8.1 (h_.vars.length:Int))
 ((at? h_.vars s_8.1).bind fun e_16 =>
 (zev y_5 e_16).bind fun y_21 =>
 (room (s_8.2.length + [y_21].length) 8).bind fun _ =>
 some (.inl (addI s_8.1 1,s_8.2 ++ [y_21])))
 (some (.inr s_8.2))) (0,[])).bind fun r_26 =>
 (iter (ρ:=(List Int)) (fun s_31:Int × (List Int) =>
 cond (ltI s_31.1 (y_5.length:Int))
 ((at? y_5 s_31.1).bind fun e_39 =>
 (at? h_.next e_39).bind fun e_44 =>
 (zev y_5 e_44).bind fun y_49 =>
 (room (s_31.2.length + [y_49].length) 8).bind fun _ =>
 some (.inl (addI s_31.1 1,s_31.2 ++ [y_49])))
 (some (.inr s_31.2))) (0,[])).bind fun r_54 =>
 some (⟨r_26,r_54⟩:THeap))
 (some (⟨[],[]⟩:THeap))

def zfw (on:Bool):Option (Int) :=
 cond on
 (some 2)
 (some 0)

def zbq (h_:THeap):Option (TStructure) :=
 (zdr h_).bind fun y_1 =>
 cond y_1
 (cond (ltI 10 (h_.next.length:Int))
 (some (⟨[],[]⟩:TStructure))
 ((zbh (h_.vars.length:Int) 1 4).bind fun y_6 =>
 cond y_6
 ((iter (ρ:=(List TNode) × (List Int)) (fun s_10:Int × (List TNode) × (List Int) =>
 cond (ltI s_10.1 (h_.next.length:Int))
 ((zca h_.next s_10.1).bind fun y_18 =>
 (zfw (ltI 1 (y_18.length:Int))).bind fun y_21 =>
 (iter (ρ:=(List Int) × (List Int)) (fun s_25:Int × (List Int) × (List Int) =>
 cond (ltI s_25.1 (h_.vars.length:Int))
 ((at? h_.vars s_25.1).bind fun e_33 =>
 (zfw (eqI e_33 s_10.1)).bind fun y_38 =>
 (room (s_25.2.1.length + [y_38].length) 8).bind fun _ =>
 (at? h_.vars s_25.1).bind fun _ =>
 (zcu h_ e_33).bind fun y_48 =>
 (zci y_48 s_10.1).bind fun y_51 =>
 (zfw y_51).bind fun y_54 =>
 (room (s_25.2.2.length + [y_54].length) 8).bind fun _ =>
 some (.inl (addI s_25.1 1,s_25.2.1 ++ [y_38],s_25.2.2 ++ [y_54])))
 (some (.inr (s_25.2.1,s_25.2.2)))) (0,[],[])).bind fun r_59 =>
 (room (s_10.2.1.length + [(⟨r_59.1,r_59.2,y_21,0⟩:TNode)].length) 64).bind fun _ =>
 (iter (ρ:=(List Int)) (fun s_66:Int × (List Int) =>
 cond (ltI s_66.1 (h_.next.length:Int))
 ((at? h_.next s_10.1).bind fun e_74 =>
 (zfw (eqI e_74 s_66.1)).bind fun y_79 =>
 (room (s_66.2.length + [y_79].length) 8).bind fun _ =>
 some (.inl (addI s_66.1 1,s_66.2 ++ [y_79])))
 (some (.inr s_66.2))) (0,s_10.2.2)).bind fun r_84 =>
 some (.inl (addI s_10.1 1,s_10.2.1 ++ [(⟨r_59.1,r_59.2,y_21,0⟩:TNode)],r_84)))
 (some (.inr (s_10.2.1,s_10.2.2)))) (0,[],[])).bind fun r_89 =>
 some (⟨r_89.1,r_89.2⟩:TStructure))
 (some (⟨[],[]⟩:TStructure))))
 (some (⟨[],[]⟩:TStructure))

def zdj (s:TStructure):Option (Int) :=
 cond (eqI (s.nodes.length:Int) 0)
 (some 0)
 ((at? s.nodes 0).bind fun e_2 =>
 some (e_2.vars.length:Int))

def zaz (a_:Int):Option (Bool) :=
 (zbh a_ 0 2).bind fun y_1 =>
 some y_1

def zcs (list:(List Int)):Option (Bool) :=
 (iter (ρ:=(Unit) ⊕ (Unit)) (fun s_1:Int =>
 cond (ltI s_1 (list.length:Int))
 ((at? list s_1).bind fun e_9 =>
 (zaz e_9).bind fun y_14 =>
 cond y_14
 (some (.inl (addI s_1 1)))
 (some (.inr (.inl ()))))
 (some (.inr (.inr ())))) 0).bind fun r_18 =>
 Sum.elim (fun _r_18 =>
 some false)
 (fun _r_18 =>
 some true) r_18

def zck (vars:Int) (s:TStructure):Option (Bool) :=
 (iter (ρ:=(Unit) ⊕ (Unit)) (fun s_1:Int =>
 cond (ltI s_1 (s.nodes.length:Int))
 ((at? s.nodes s_1).bind fun e_9 =>
 cond (neI (e_9.vars.length:Int) vars)
 (some (.inr (.inl ())))
 (cond (neI (e_9.reach.length:Int) vars)
 (some (.inr (.inl ())))
 ((zcs e_9.vars).bind fun y_17 =>
 cond y_17
 ((zcs e_9.reach).bind fun y_21 =>
 cond y_21
 ((zaz e_9.shared).bind fun y_25 =>
 cond y_25
 ((zbh e_9.many 0 1).bind fun y_29 =>
 cond y_29
 (some (.inl (addI s_1 1)))
 (some (.inr (.inl ()))))
 (some (.inr (.inl ()))))
 (some (.inr (.inl ()))))
 (some (.inr (.inl ()))))))
 (some (.inr (.inr ())))) 0).bind fun r_33 =>
 Sum.elim (fun _r_33 =>
 some false)
 (fun _r_33 =>
 (zbh vars 1 4).bind fun y_41 =>
 cond y_41
 (cond (leI (s.nodes.length:Int) 10)
 (cond (eqI (s.next.length:Int) (mulI (s.nodes.length:Int) (s.nodes.length:Int)))
 ((zcs s.next).bind fun y_47 =>
 some y_47)
 (some false))
 (some false))
 (some false)) r_33

def zcj (x_:TNode):Option (TNode) :=
 (room (([]:List Int).length+x_.vars.length) 8).bind fun _ =>
 (room (([]:List Int).length+x_.reach.length) 8).bind fun _ =>
 some x_

def zfd (s:TStructure):Option (TStructure) :=
 (room (([]:List Int).length+s.next.length) 8).bind fun _ =>
 (iter (ρ:=(List TNode)) (fun s_3:Int × (List TNode) =>
 cond (ltI s_3.1 (s.nodes.length:Int))
 ((at? s.nodes s_3.1).bind fun e_11 =>
 (zcj e_11).bind fun y_16 =>
 (room (s_3.2.length + [y_16].length) 64).bind fun _ =>
 some (.inl (addI s_3.1 1,s_3.2 ++ [y_16])))
 (some (.inr s_3.2))) (0,[])).bind fun r_21 =>
 some (⟨r_21,s.next⟩:TStructure)

def zav (s:TStructure):Option (Int) :=
 cond (eqI (s.nodes.length:Int) 0)
 (some 0)
 ((zdj s).bind fun y_2 =>
 some (addI (mulI 2 y_2) 1))

def zex (list:(List Int)) (k_:Int):Option (Int) :=
 (zbh k_ 0 (subI (list.length:Int) 1)).bind fun y_1 =>
 cond y_1
 ((at? list k_).bind fun e_5 =>
 some e_5)
 (some 1)

def zbr (s:TStructure) (k_:Int) (i:Int):Option (Int) :=
 (zdj s).bind fun y_1 =>
 (zbh i 0 (subI (s.nodes.length:Int) 1)).bind fun y_4 =>
 cond y_4
 ((zbh k_ 0 (subI y_1 1)).bind fun y_8 =>
 cond y_8
 ((at? s.nodes i).bind fun e_12 =>
 (zex e_12.vars k_).bind fun y_17 =>
 some y_17)
 ((zbh k_ y_1 (subI (mulI 2 y_1) 1)).bind fun y_20 =>
 cond y_20
 ((at? s.nodes i).bind fun e_24 =>
 (zex e_24.reach (subI k_ y_1)).bind fun y_29 =>
 some y_29)
 (cond (eqI k_ (mulI 2 y_1))
 ((at? s.nodes i).bind fun e_33 =>
 some e_33.shared)
 (some 1))))
 (some 1)

def zdk (a_:Int):Option (ByteArray) :=
 (zaz a_).bind fun y_1 =>
 cond y_1
 ((sub? (⟨#[48,63,49]⟩:ByteArray) a_ (addI a_ 1)).bind fun z_5 =>
 some z_5)
 (some (⟨#[]⟩:ByteArray))

def zct (s:TStructure) (i:Int):Option (ByteArray) :=
 (zbh i 0 (subI (s.nodes.length:Int) 1)).bind fun y_1 =>
 cond y_1
 ((zav s).bind fun y_5 =>
 (iter (ρ:=ByteArray) (fun s_8:ByteArray × Int =>
 cond (ltI s_8.2 y_5)
 ((zbr s s_8.2 i).bind fun y_16 =>
 (zdk y_16).bind fun y_19 =>
 (catS s_8.1 y_19).bind fun z_22 =>
 some (.inl (z_22,addI s_8.2 1)))
 (some (.inr s_8.1))) ((⟨#[]⟩:ByteArray),0)).bind fun r_25 =>
 some r_25)
 (some (⟨#[]⟩:ByteArray))

def zfm (s:TStructure):Option (List (List Int)) :=
 groupsT zct s

def zem (s:TStructure) (group:(List Int)):Option (TNode) :=
 (at? group 0).bind fun e_1 =>
 (at? s.nodes e_1).bind fun e_6 =>
 (zcj e_6).bind fun y_11 =>
 (iter (ρ:=Int) (fun s_14:Int × Int =>
 cond (ltI s_14.1 (group.length:Int))
 (cond (ltI 1 (group.length:Int))
 (some (.inl (addI s_14.1 1,1)))
 ((at? group s_14.1).bind fun e_23 =>
 (at? s.nodes e_23).bind fun e_28 =>
 cond (neI e_28.many 0)
 (some (.inl (addI s_14.1 1,1)))
 (some (.inl (addI s_14.1 1,s_14.2)))))
 (some (.inr s_14.2))) (0,y_11.many)).bind fun r_34 =>
 some (⟨y_11.vars,y_11.reach,y_11.shared,r_34⟩:TNode)

def zcn (s:TStructure) (i:Int) (j:Int):Option (Int) :=
 (zbh i 0 (subI (s.nodes.length:Int) 1)).bind fun y_1 =>
 cond y_1
 ((zbh j 0 (subI (s.nodes.length:Int) 1)).bind fun y_5 =>
 cond y_5
 (cond (neI (s.next.length:Int) (mulI (s.nodes.length:Int) (s.nodes.length:Int)))
 (some 1)
 ((at? s.next (addI (mulI i (s.nodes.length:Int)) j)).bind fun e_10 =>
 some e_10))
 (some 1))
 (some 1)

def zfe (a_:Int) (b_:Int):Option (Int) :=
 cond (neI a_ b_)
 (some 1)
 ((zaz a_).bind fun y_2 =>
 cond y_2
 (some a_)
 (some 1))

def zen (s:TStructure) (a_:(List Int)) (b_:(List Int)):Option (Int) :=
 (at? a_ 0).bind fun e_1 =>
 (at? b_ 0).bind fun e_6 =>
 (zcn s e_1 e_6).bind fun y_11 =>
 (iter (ρ:=Int) (fun s_14:Int × Int =>
 cond (ltI s_14.2 (a_.length:Int))
 ((iter (ρ:=Int) (fun s_22:Int × Int =>
 cond (ltI s_22.2 (b_.length:Int))
 ((at? a_ s_14.2).bind fun e_30 =>
 (at? b_ s_22.2).bind fun e_35 =>
 (zcn s e_30 e_35).bind fun y_40 =>
 (zfe s_22.1 y_40).bind fun y_43 =>
 some (.inl (y_43,addI s_22.2 1)))
 (some (.inr s_22.1))) (s_14.1,0)).bind fun r_46 =>
 some (.inl (r_46,addI s_14.2 1)))
 (some (.inr s_14.1))) (y_11,0)).bind fun r_51 =>
 some r_51

def zfn (s:TStructure):Option (TStructure) :=
 cond (eqI (s.nodes.length:Int) 0)
 (some (⟨[],[]⟩:TStructure))
 ((zdj s).bind fun y_2 =>
 (zck y_2 s).bind fun y_5 =>
 cond y_5
 ((zfm s).bind fun y_9 =>
 (iter (ρ:=(List TNode) × (List Int)) (fun s_12:Int × (List TNode) × (List Int) =>
 cond (ltI s_12.1 (y_9.length:Int))
 ((at? y_9 s_12.1).bind fun e_20 =>
 (zem s e_20).bind fun y_25 =>
 (room (s_12.2.1.length + [y_25].length) 64).bind fun _ =>
 (iter (ρ:=(List Int)) (fun s_30:Int × (List Int) =>
 cond (ltI s_30.1 (y_9.length:Int))
 ((at? y_9 s_12.1).bind fun _ =>
 (at? y_9 s_30.1).bind fun e_43 =>
 (zen s e_20 e_43).bind fun y_48 =>
 (room (s_30.2.length + [y_48].length) 8).bind fun _ =>
 some (.inl (addI s_30.1 1,s_30.2 ++ [y_48])))
 (some (.inr s_30.2))) (0,s_12.2.2)).bind fun r_53 =>
 some (.inl (addI s_12.1 1,s_12.2.1 ++ [y_25],r_53)))
 (some (.inr (s_12.2.1,s_12.2.2)))) (0,[],[])).bind fun r_58 =>
 some (⟨r_58.1,r_58.2⟩:TStructure))
 ((zfd s).bind fun y_63 =>
 some y_63))

def zdb (c:TL1Cur):Option ((Int) × TL1Cur) :=
 cond (ltI c.i (c.b.length:Int))
 ((at? c.b c.i).bind fun e_2 =>
 some (andI (addI (andI (xorI (shrI (addI (mulI c.h 6364136223846793005) 1442695040888963407) 33) (shrI (addI (mulI c.h 6364136223846793005) 1442695040888963407) 45)) 255) (cvtI e_2.v)) 255,(⟨c.b,addI c.i 1,addI (mulI c.h 6364136223846793005) 1442695040888963407⟩:TL1Cur)))
 (some (andI (xorI (shrI (addI (mulI c.h 6364136223846793005) 1442695040888963407) 33) (shrI (addI (mulI c.h 6364136223846793005) 1442695040888963407) 45)) 255,(⟨c.b,c.i,addI (mulI c.h 6364136223846793005) 1442695040888963407⟩:TL1Cur)))

def zaj (c:TL1Cur) (n_:Int):Option ((Int) × TL1Cur) :=
 cond (leI n_ 0)
 (some (0,c))
 (cond (leI n_ 256)
 ((zdb c).bind fun y_3 =>
 (remQ y_3.1 n_).bind fun z_5 =>
 some (z_5,y_3.2))
 ((zdb c).bind fun y_8 =>
 (zdb y_8.2).bind fun y_10 =>
 (zdb y_10.2).bind fun y_12 =>
 (zdb y_12.2).bind fun y_14 =>
 (remQ (addI (addI (addI (mulI y_8.1 16777216) (mulI y_10.1 65536)) (mulI y_12.1 256)) y_14.1) n_).bind fun z_16 =>
 some (z_16,y_14.2)))

def zdz (c:TL1Cur) (n_:Int):Option ((Bool) × TL1Cur) :=
 (zaj c n_).bind fun y_1 =>
 some (eqI y_1.1 0,y_1.2)

def zeq (c:TL1Cur) (vars:Int):Option ((THeap) × TL1Cur) :=
 (zaj c 6).bind fun y_3 =>
 (iter (ρ:=(List U8) × Int × Int × (List Int)) (fun s_5:Int × (List U8) × Int × Int × (List Int) =>
 cond (ltI s_5.1 y_3.1)
 ((zdz (⟨s_5.2.1,s_5.2.2.1,s_5.2.2.2.1⟩:TL1Cur) 4).bind fun y_13 =>
 cond y_13.1
 ((zaj y_13.2 (addI s_5.1 1)).bind fun y_16 =>
 (room (s_5.2.2.2.2.length + [subI y_16.1 1].length) 8).bind fun _ =>
 some (.inl (addI s_5.1 1,y_16.2.b,y_16.2.i,y_16.2.h,s_5.2.2.2.2 ++ [subI y_16.1 1])))
 ((room (s_5.2.2.2.2.length + [subI s_5.1 1].length) 8).bind fun _ =>
 some (.inl (addI s_5.1 1,y_13.2.b,y_13.2.i,y_13.2.h,s_5.2.2.2.2 ++ [subI s_5.1 1]))))
 (some (.inr (s_5.2.1,s_5.2.2.1,s_5.2.2.2.1,s_5.2.2.2.2)))) (0,y_3.2.b,y_3.2.i,y_3.2.h,[])).bind fun r_22 =>
 (iter (ρ:=(List U8) × Int × Int × (List Int)) (fun s_27:Int × (List U8) × Int × Int × (List Int) =>
 cond (ltI s_27.1 vars)
 ((zaj (⟨s_27.2.1,s_27.2.2.1,s_27.2.2.2.1⟩:TL1Cur) (addI y_3.1 1)).bind fun y_35 =>
 cond (eqI s_27.1 0)
 ((zdz y_35.2 2).bind fun y_38 =>
 cond y_38.1
 ((room (s_27.2.2.2.2.length + [subI y_3.1 1].length) 8).bind fun _ =>
 some (.inl (addI s_27.1 1,y_38.2.b,y_38.2.i,y_38.2.h,s_27.2.2.2.2 ++ [subI y_3.1 1])))
 ((room (s_27.2.2.2.2.length + [subI y_35.1 1].length) 8).bind fun _ =>
 some (.inl (addI s_27.1 1,y_38.2.b,y_38.2.i,y_38.2.h,s_27.2.2.2.2 ++ [subI y_35.1 1]))))
 ((room (s_27.2.2.2.2.length + [subI y_35.1 1].length) 8).bind fun _ =>
 some (.inl (addI s_27.1 1,y_35.2.b,y_35.2.i,y_35.2.h,s_27.2.2.2.2 ++ [subI y_35.1 1]))))
 (some (.inr (s_27.2.1,s_27.2.2.1,s_27.2.2.2.1,s_27.2.2.2.2)))) (0,r_22.1,r_22.2.1,r_22.2.2.1,[])).bind fun r_47 =>
 (zec (⟨r_47.2.2.2,r_22.2.2.2⟩:THeap)).bind fun y_52 =>
 some (y_52,(⟨r_47.1,r_47.2.1,r_47.2.2.1⟩:TL1Cur))

def zeo (c:TL1Cur) (vars:Int):Option ((TStructure) × TL1Cur) :=
 (zeq c vars).bind fun y_2 =>
 (zbq y_2.1).bind fun y_4 =>
 (zdz y_2.2 3).bind fun y_8 =>
 cond y_8.1
 ((zaj y_8.2 3).bind fun y_11 =>
 (iter (ρ:=(List U8) × Int × Int × (List TNode) × (List Int)) (fun s_13:Int × (List U8) × Int × Int × (List TNode) × (List Int) =>
 cond (ltI s_13.1 y_11.1)
 (cond (ltI 0 (s_13.2.2.2.2.1.length:Int))
 ((zaj (⟨s_13.2.1,s_13.2.2.1,s_13.2.2.2.1⟩:TL1Cur) (s_13.2.2.2.2.1.length:Int)).bind fun y_22 =>
 (zaj y_22.2 4).bind fun y_24 =>
 cond (eqI y_24.1 0)
 ((at? s_13.2.2.2.2.1 y_22.1).bind fun e_29 =>
 (at? s_13.2.2.2.2.1 y_22.1).bind fun _ =>
 (zaj y_24.2 vars).bind fun y_40 =>
 (at? e_29.reach y_40.1).bind fun e_42 =>
 some (.inl (addI s_13.1 1,y_40.2.b,y_40.2.i,y_40.2.h,s_13.2.2.2.2.1.set y_22.1.toNat (⟨e_29.vars,e_29.reach.set y_40.1.toNat 1,e_29.shared,e_29.many⟩:TNode),s_13.2.2.2.2.2)))
 (cond (eqI y_24.1 1)
 ((at? s_13.2.2.2.2.1 y_22.1).bind fun e_53 =>
 some (.inl (addI s_13.1 1,y_24.2.b,y_24.2.i,y_24.2.h,s_13.2.2.2.2.1.set y_22.1.toNat (⟨e_53.vars,e_53.reach,1,e_53.many⟩:TNode),s_13.2.2.2.2.2)))
 (cond (eqI y_24.1 2)
 ((zaj y_24.2 (s_13.2.2.2.2.2.length:Int)).bind fun y_61 =>
 (at? s_13.2.2.2.2.2 y_61.1).bind fun e_63 =>
 some (.inl (addI s_13.1 1,y_61.2.b,y_61.2.i,y_61.2.h,s_13.2.2.2.2.1,s_13.2.2.2.2.2.set y_61.1.toNat 1)))
 (some (.inl (addI s_13.1 1,y_24.2.b,y_24.2.i,y_24.2.h,s_13.2.2.2.2.1,s_13.2.2.2.2.2))))))
 (some (.inr (s_13.2.1,s_13.2.2.1,s_13.2.2.2.1,s_13.2.2.2.2.1,s_13.2.2.2.2.2))))
 (some (.inr (s_13.2.1,s_13.2.2.1,s_13.2.2.2.1,s_13.2.2.2.2.1,s_13.2.2.2.2.2)))) (0,y_11.2.b,y_11.2.i,y_11.2.h,y_4.nodes,y_4.next)).bind fun r_69 =>
 some ((⟨r_69.2.2.2.1,r_69.2.2.2.2⟩:TStructure),(⟨r_69.1,r_69.2.1,r_69.2.2.1⟩:TL1Cur)))
 ((zfn y_4).bind fun y_74 =>
 (zaj y_8.2 3).bind fun y_77 =>
 (iter (ρ:=(List U8) × Int × Int × (List TNode) × (List Int)) (fun s_79:Int × (List U8) × Int × Int × (List TNode) × (List Int) =>
 cond (ltI s_79.1 y_77.1)
 (cond (ltI 0 (s_79.2.2.2.2.1.length:Int))
 ((zaj (⟨s_79.2.1,s_79.2.2.1,s_79.2.2.2.1⟩:TL1Cur) (s_79.2.2.2.2.1.length:Int)).bind fun y_88 =>
 (zaj y_88.2 4).bind fun y_90 =>
 cond (eqI y_90.1 0)
 ((at? s_79.2.2.2.2.1 y_88.1).bind fun e_95 =>
 (at? s_79.2.2.2.2.1 y_88.1).bind fun _ =>
 (zaj y_90.2 vars).bind fun y_106 =>
 (at? e_95.reach y_106.1).bind fun e_108 =>
 some (.inl (addI s_79.1 1,y_106.2.b,y_106.2.i,y_106.2.h,s_79.2.2.2.2.1.set y_88.1.toNat (⟨e_95.vars,e_95.reach.set y_106.1.toNat 1,e_95.shared,e_95.many⟩:TNode),s_79.2.2.2.2.2)))
 (cond (eqI y_90.1 1)
 ((at? s_79.2.2.2.2.1 y_88.1).bind fun e_119 =>
 some (.inl (addI s_79.1 1,y_90.2.b,y_90.2.i,y_90.2.h,s_79.2.2.2.2.1.set y_88.1.toNat (⟨e_119.vars,e_119.reach,1,e_119.many⟩:TNode),s_79.2.2.2.2.2)))
 (cond (eqI y_90.1 2)
 ((zaj y_90.2 (s_79.2.2.2.2.2.length:Int)).bind fun y_127 =>
 (at? s_79.2.2.2.2.2 y_127.1).bind fun e_129 =>
 some (.inl (addI s_79.1 1,y_127.2.b,y_127.2.i,y_127.2.h,s_79.2.2.2.2.1,s_79.2.2.2.2.2.set y_127.1.toNat 1)))
 (some (.inl (addI s_79.1 1,y_90.2.b,y_90.2.i,y_90.2.h,s_79.2.2.2.2.1,s_79.2.2.2.2.2))))))
 (some (.inr (s_79.2.1,s_79.2.2.1,s_79.2.2.2.1,s_79.2.2.2.2.1,s_79.2.2.2.2.2))))
 (some (.inr (s_79.2.1,s_79.2.2.1,s_79.2.2.2.1,s_79.2.2.2.2.1,s_79.2.2.2.2.2)))) (0,y_77.2.b,y_77.2.i,y_77.2.h,y_74.nodes,y_74.next)).bind fun r_135 =>
 some ((⟨r_135.2.2.2.1,r_135.2.2.2.2⟩:TStructure),(⟨r_135.1,r_135.2.1,r_135.2.2.1⟩:TL1Cur)))

def zcr (c:TL1Cur) (list:(List Int)):Option ((Int) × TL1Cur) :=
 (zaj c (list.length:Int)).bind fun y_1 =>
 (at? list y_1.1).bind fun e_3 =>
 some (e_3,y_1.2)

def zdu (c:TL1Cur):Option ((TStructure) × TL1Cur) :=
 (zeo c 3).bind fun y_2 =>
 (zaj y_2.2 8).bind fun y_5 =>
 cond (eqI y_5.1 0)
 ((room (y_2.1.next.length + [0].length) 8).bind fun _ =>
 some ((⟨y_2.1.nodes,y_2.1.next ++ [0]⟩:TStructure),y_5.2))
 (cond (eqI y_5.1 1)
 (cond (ltI 0 (y_2.1.nodes.length:Int))
 ((zcr y_5.2 [2,1,0,3]).bind fun y_13 =>
 (at? y_2.1.nodes 0).bind fun e_15 =>
 some ((⟨y_2.1.nodes.set (0:Int).toNat (⟨e_15.vars,e_15.reach,e_15.shared,y_13.1⟩:TNode),y_2.1.next⟩:TStructure),y_13.2))
 (some (y_2.1,y_5.2)))
 (cond (eqI y_5.1 2)
 (cond (ltI 0 (y_2.1.nodes.length:Int))
 ((at? y_2.1.nodes 0).bind fun e_25 =>
 (at? y_2.1.nodes 0).bind fun _ =>
 (zcr y_5.2 [0,1,2,3]).bind fun y_36 =>
 (at? e_25.vars 0).bind fun e_38 =>
 some ((⟨y_2.1.nodes.set (0:Int).toNat (⟨e_25.vars.set (0:Int).toNat y_36.1,e_25.reach,e_25.shared,e_25.many⟩:TNode),y_2.1.next⟩:TStructure),y_36.2))
 (some (y_2.1,y_5.2)))
 (cond (eqI y_5.1 3)
 (cond (ltI 0 (y_2.1.nodes.length:Int))
 ((at? y_2.1.nodes 0).bind fun e_50 =>
 (slc e_50.reach 1 (e_50.reach.length:Int)).bind fun z_55 =>
 (at? y_2.1.nodes 0).bind fun _ =>
 some ((⟨y_2.1.nodes.set (0:Int).toNat (⟨e_50.vars,z_55,e_50.shared,e_50.many⟩:TNode),y_2.1.next⟩:TStructure),y_5.2))
 (some (y_2.1,y_5.2)))
 (some (y_2.1,y_5.2)))))

def zer (code:(List U8)):Option (TStructure) :=
 (zew code).bind fun y_1 =>
 (zdu y_1).bind fun y_3 =>
 some y_3.1

def zdl (s:TStructure):Option (Int) :=
 cond (eqI (s.nodes.length:Int) 0)
 (some 0)
 ((at? s.nodes 0).bind fun e_2 =>
 some (e_2.vars.length:Int))

def zbm (n_:Int) (low:Int) (high:Int):Option (Bool) :=
 cond (leI low n_)
 (some (leI n_ high))
 (some false)

def zcm (a_:Int):Option (Bool) :=
 (zbm a_ 0 2).bind fun y_1 =>
 some y_1

def zdq (a_:Int):Option (Bool) :=
 (zcm a_).bind fun y_1 =>
 some (notB y_1)

def zeg (s:(List Int)) (f_:(Int→Option (Bool))):Option (Int) :=
 (iter (ρ:=(Int) ⊕ (Unit)) (fun s_1:Int =>
 cond (ltI s_1 (s.length:Int))
 ((at? s s_1).bind fun e_10 =>
 (f_ e_10).bind fun y_15 =>
 cond y_15
 (some (.inr (.inl s_1)))
 (some (.inl (addI s_1 1))))
 (some (.inr (.inr ())))) 0).bind fun r_18 =>
 Sum.elim (fun r_18 =>
 some r_18)
 (fun _r_18 =>
 some (-1)) r_18

def zbb (s:(List Int)) (f_:(Int→Option (Bool))):Option (Bool) :=
 (zeg s f_).bind fun y_1 =>
 some (leI 0 y_1)

def zcv (list:(List Int)):Option (Bool) :=
 (zbb list (fun x0=>zdq x0)).bind fun y_1 =>
 some (notB y_1)

def zdv (s:(List TNode)) (f_:(TNode→Option (Bool))):Option (Int) :=
 (iter (ρ:=(Int) ⊕ (Unit)) (fun s_1:Int =>
 cond (ltI s_1 (s.length:Int))
 ((at? s s_1).bind fun e_10 =>
 (f_ e_10).bind fun y_15 =>
 cond y_15
 (some (.inr (.inl s_1)))
 (some (.inl (addI s_1 1))))
 (some (.inr (.inr ())))) 0).bind fun r_18 =>
 Sum.elim (fun r_18 =>
 some r_18)
 (fun _r_18 =>
 some (-1)) r_18

def zbw (s:(List TNode)) (f_:(TNode→Option (Bool))):Option (Bool) :=
 (zdv s f_).bind fun y_1 =>
 some (leI 0 y_1)

def zda (x_:TNode) (c0:Int):Option (Bool) :=
 cond (neI (x_.vars.length:Int) c0)
 (some true)
 (cond (neI (x_.reach.length:Int) c0)
 (some true)
 ((zcv x_.vars).bind fun y_3 =>
 cond y_3
 ((zcv x_.reach).bind fun y_7 =>
 cond y_7
 ((zcm x_.shared).bind fun y_11 =>
 cond y_11
 (cond (neI x_.many 0)
 (some (neI x_.many 1))
 (some false))
 (some true))
 (some true))
 (some true)))

def zdg (vars:Int) (s:TStructure):Option (Bool) :=
 (zbm vars 1 4).bind fun y_1 =>
 cond y_1
 (cond (ltI 10 (s.nodes.length:Int))
 (some false)
 (cond (neI (s.next.length:Int) (mulI (s.nodes.length:Int) (s.nodes.length:Int)))
 (some false)
 ((zcv s.next).bind fun y_7 =>
 cond y_7
 ((zbw s.nodes (fun x0=>zda x0 vars)).bind fun y_11 =>
 some (notB y_11))
 (some false))))
 (some false)

def zdi (x_:TNode):Option (TNode) :=
 (zcl x_.vars).bind fun y_1 =>
 (zcl x_.reach).bind fun y_4 =>
 some (⟨y_1,y_4,x_.shared,x_.many⟩:TNode)

def zcg (s:TStructure):Option (TStructure) :=
 (zcl s.next).bind fun y_1 =>
 (iter (ρ:=(List TNode)) (fun s_4:Int × (List TNode) =>
 cond (ltI s_4.1 (s.nodes.length:Int))
 ((at? s.nodes s_4.1).bind fun e_12 =>
 (zdi e_12).bind fun y_18 =>
 (room (s_4.2.length + [y_18].length) 64).bind fun _ =>
 some (.inl (addI s_4.1 1,s_4.2 ++ [y_18])))
 (some (.inr s_4.2))) (0,[])).bind fun r_23 =>
 some (⟨r_23,y_1⟩:TStructure)

def zam (s:TStructure) (i:Int):Option (Bool) :=
 (zbm i 0 (subI (s.nodes.length:Int) 1)).bind fun y_1 =>
 some y_1

def zaw (s:TStructure):Option (Int) :=
 cond (eqI (s.nodes.length:Int) 0)
 (some 0)
 ((zdl s).bind fun y_2 =>
 some (addI (mulI 2 y_2) 1))

def zbt (s:TStructure) (k_:Int) (i:Int):Option (Int) :=
 (zdl s).bind fun y_1 =>
 (zam s i).bind fun y_4 =>
 cond y_4
 ((at? s.nodes i).bind fun e_8 =>
 cond (eqI k_ (mulI 2 y_1))
 (some e_8.shared)
 ((zbm k_ 0 (subI y_1 1)).bind fun y_14 =>
 cond y_14
 ((zbm k_ 0 (subI (e_8.vars.length:Int) 1)).bind fun y_18 =>
 cond y_18
 ((at? e_8.vars k_).bind fun e_22 =>
 some e_22)
 (some 1))
 ((zbm k_ y_1 (subI (mulI 2 y_1) 1)).bind fun y_27 =>
 cond y_27
 ((zbm (subI k_ y_1) 0 (subI (e_8.reach.length:Int) 1)).bind fun y_31 =>
 cond y_31
 ((at? e_8.reach (subI k_ y_1)).bind fun e_35 =>
 some e_35)
 (some 1))
 ((zbm k_ 0 (subI 0 1)).bind fun y_40 =>
 cond y_40
 ((at? [] k_).bind fun e_44 =>
 some e_44)
 (some 1)))))
 (some 1)

def zed (a_:Int):Option (ByteArray) :=
 (zcm a_).bind fun y_1 =>
 cond y_1
 ((sub? (⟨#[48,63,49]⟩:ByteArray) a_ (addI a_ 1)).bind fun z_5 =>
 some z_5)
 (some (⟨#[]⟩:ByteArray))

def zau (s:TStructure) (i:Int):Option (ByteArray) :=
 (zam s i).bind fun y_1 =>
 cond y_1
 ((zaw s).bind fun y_5 =>
 (iter (ρ:=ByteArray) (fun s_8:ByteArray × Int =>
 cond (ltI s_8.2 y_5)
 ((zbt s s_8.2 i).bind fun y_16 =>
 (zed y_16).bind fun y_19 =>
 (catS s_8.1 y_19).bind fun z_22 =>
 some (.inl (z_22,addI s_8.2 1)))
 (some (.inr s_8.1))) ((⟨#[]⟩:ByteArray),0)).bind fun r_25 =>
 some r_25)
 (some (⟨#[]⟩:ByteArray))

def zfg (s:TStructure) (i:Int) (j:Int):Option (Int) :=
 (zam s i).bind fun y_1 =>
 cond y_1
 ((zam s j).bind fun y_5 =>
 cond y_5
 (cond (neI (s.next.length:Int) (mulI (s.nodes.length:Int) (s.nodes.length:Int)))
 (some 1)
 ((at? s.next (addI (mulI i (s.nodes.length:Int)) j)).bind fun e_10 =>
 some e_10))
 (some 1))
 (some 1)

def zfu (a_:Int) (b_:Int):Option (Int) :=
 cond (neI a_ b_)
 (some 1)
 ((zcm a_).bind fun y_2 =>
 cond y_2
 (some a_)
 (some 1))

def zdx (s:TStructure) (from_:(List Int)) (to_:(List Int)):Option (Int) :=
 (at? from_ 0).bind fun e_1 =>
 (at? to_ 0).bind fun e_6 =>
 (zfg s e_1 e_6).bind fun y_11 =>
 (iter (ρ:=Int) (fun s_14:Int × Int =>
 cond (ltI s_14.2 (from_.length:Int))
 ((at? from_ s_14.2).bind fun e_22 =>
 (iter (ρ:=Int) (fun s_27:Int × Int =>
 cond (ltI s_27.2 (to_.length:Int))
 ((at? to_ s_27.2).bind fun e_35 =>
 (zfg s e_22 e_35).bind fun y_40 =>
 (zfu s_27.1 y_40).bind fun y_43 =>
 some (.inl (y_43,addI s_27.2 1)))
 (some (.inr s_27.1))) (s_14.1,0)).bind fun r_46 =>
 some (.inl (r_46,addI s_14.2 1)))
 (some (.inr s_14.1))) (y_11,0)).bind fun r_51 =>
 some r_51

def zfy (s:TStructure):Option (TStructure) :=
 cond (eqI (s.nodes.length:Int) 0)
 (some (⟨[],[]⟩:TStructure))
 ((zdl s).bind fun y_2 =>
 (zdg y_2 s).bind fun y_5 =>
 cond y_5
 ((preT zau s).bind fun p_9 =>
 (iter (ρ:=(List TNode) × (List Int)) (fun s_11:Int × (List TNode) × (List Int) =>
 cond (ltI s_11.1 (p_9.2.length:Int))
 ((at? p_9.2 s_11.1).bind fun e_19 =>
 (lookT e_19 p_9.1).bind fun y_24 =>
 (at? y_24 0).bind fun e_27 =>
 (at? s.nodes e_27).bind fun e_32 =>
 (zdi e_32).bind fun y_37 =>
 (lookT e_19 p_9.1).bind fun _ =>
 (iter (ρ:=Int) (fun s_42:Int × Int =>
 cond (ltI s_42.1 (y_24.length:Int))
 ((at? y_24 s_42.1).bind fun e_50 =>
 cond (ltI 0 s_42.1)
 (some (.inl (addI s_42.1 1,1)))
 ((at? s.nodes e_50).bind fun e_56 =>
 cond (neI e_56.many 0)
 (some (.inl (addI s_42.1 1,1)))
 (some (.inl (addI s_42.1 1,s_42.2)))))
 (some (.inr s_42.2))) (0,y_37.many)).bind fun r_62 =>
 (room (s_11.2.1.length + [(⟨y_37.vars,y_37.reach,y_37.shared,r_62⟩:TNode)].length) 64).bind fun _ =>
 (iter (ρ:=(List Int)) (fun s_69:Int × (List Int) =>
 cond (ltI s_69.1 (p_9.2.length:Int))
 ((at? p_9.2 s_69.1).bind fun e_77 =>
 (lookT e_19 p_9.1).bind fun _ =>
 (lookT e_77 p_9.1).bind fun y_83 =>
 (zdx s y_24 y_83).bind fun y_86 =>
 (room (s_69.2.length + [y_86].length) 8).bind fun _ =>
 some (.inl (addI s_69.1 1,s_69.2 ++ [y_86])))
 (some (.inr s_69.2))) (0,s_11.2.2)).bind fun r_91 =>
 some (.inl (addI s_11.1 1,s_11.2.1 ++ [(⟨y_37.vars,y_37.reach,y_37.shared,r_62⟩:TNode)],r_91)))
 (some (.inr (s_11.2.1,s_11.2.2)))) (0,[],[])).bind fun r_96 =>
 some (⟨r_96.1,r_96.2⟩:TStructure))
 ((zcg s).bind fun y_101 =>
 some y_101))

def zej (code:(List U8)):Option (TStructure × Int × Int) :=
 (zew code).bind fun y_1 =>
 (zdu y_1).bind fun y_3 =>
 (zaj y_3.2 5).bind fun y_5 =>
 (zaj y_5.2 5).bind fun y_7 =>
 some (y_3.1,subI y_5.1 1,subI y_7.1 1)

def zco (code:(List U8)):Option (TStructure × Int) :=
 (zej code).bind fun y_1 =>
 some (y_1.1,y_1.2.1)

def zfb (c:TL1Cur):Option ((Int × THeap) × TL1Cur) :=
 (zeq c 3).bind fun y_2 =>
 (zaj y_2.2 8).bind fun y_5 =>
 cond (eqI y_5.1 0)
 ((zaj y_5.2 8).bind fun y_9 =>
 (at? y_2.1.vars 0).bind fun e_11 =>
 some ((3,(⟨y_2.1.vars.set (0:Int).toNat (subI y_9.1 2),y_2.1.next⟩:THeap)),y_9.2))
 (cond (eqI y_5.1 1)
 ((zaj y_5.2 5).bind fun y_18 =>
 (room (y_2.1.next.length + [subI y_18.1 2].length) 8).bind fun _ =>
 some ((3,(⟨y_2.1.vars,y_2.1.next ++ [subI y_18.1 2]⟩:THeap)),y_18.2))
 (cond (eqI y_5.1 2)
 (cond (ltI 0 (y_2.1.next.length:Int))
 ((zaj y_5.2 (y_2.1.next.length:Int)).bind fun y_25 =>
 (at? y_2.1.next 0).bind fun e_27 =>
 some ((3,(⟨y_2.1.vars,y_2.1.next.set (0:Int).toNat y_25.1⟩:THeap)),y_25.2))
 (some ((3,y_2.1),y_5.2)))
 (cond (eqI y_5.1 3)
 ((zaj y_5.2 3).bind fun y_34 =>
 some ((addI 2 y_34.1,y_2.1),y_34.2))
 (some ((3,y_2.1),y_5.2)))))

def zcz (code:(List U8)):Option (THeap) :=
 (zew code).bind fun y_1 =>
 (zfb y_1).bind fun y_3 =>
 some y_3.1.2

def zbf (code:(List U8)):Option (THeap) :=
 (zcz code).bind fun y_1 =>
 some y_1

def zep (a_:(List Int)) (b_:(List Int)):Option (Bool) :=
 cond (neI (a_.length:Int) (b_.length:Int))
 (some false)
 ((iter (ρ:=(Unit) ⊕ (Unit)) (fun s_2:Int =>
 cond (ltI s_2 (a_.length:Int))
 ((at? a_ s_2).bind fun e_10 =>
 (at? b_ s_2).bind fun e_15 =>
 cond (neI e_10 e_15)
 (some (.inr (.inl ())))
 (some (.inl (addI s_2 1))))
 (some (.inr (.inr ())))) 0).bind fun r_21 =>
 Sum.elim (fun _r_21 =>
 some false)
 (fun _r_21 =>
 some true) r_21)

def zdc (a_:TNode) (b_:TNode):Option (Bool) :=
 (zep a_.vars b_.vars).bind fun y_1 =>
 cond y_1
 ((zep a_.reach b_.reach).bind fun y_5 =>
 cond y_5
 (cond (eqI a_.shared b_.shared)
 (some (eqI a_.many b_.many))
 (some false))
 (some false))
 (some false)

def zba (a_:TStructure) (b_:TStructure):Option (Bool) :=
 cond (neI (a_.nodes.length:Int) (b_.nodes.length:Int))
 (some false)
 ((zep a_.next b_.next).bind fun y_2 =>
 cond y_2
 ((iter (ρ:=(Unit) ⊕ (Unit)) (fun s_6:Int =>
 cond (ltI s_6 (a_.nodes.length:Int))
 ((at? a_.nodes s_6).bind fun e_14 =>
 (at? b_.nodes s_6).bind fun e_19 =>
 (zdc e_14 e_19).bind fun y_24 =>
 cond y_24
 (some (.inl (addI s_6 1)))
 (some (.inr (.inl ()))))
 (some (.inr (.inr ())))) 0).bind fun r_28 =>
 Sum.elim (fun _r_28 =>
 some false)
 (fun _r_28 =>
 some true) r_28)
 (some false))

def zbd (h_:THeap) (n_:Int):Option (Bool) :=
 (zbm n_ 0 (subI (h_.next.length:Int) 1)).bind fun y_1 =>
 some y_1

def zbn (n_:Int) (c0:THeap):Option (Bool) :=
 cond (neI n_ (-1))
 ((zbd c0 n_).bind fun y_2 =>
 some (notB y_2))
 (some false)

def zch (h_:THeap):Option (Bool) :=
 (zdn [h_.vars,h_.next]).bind fun y_1 =>
 (zbb y_1 (fun x0=>zbn x0 h_)).bind fun y_4 =>
 some (notB y_4)

def zey (list:(List Int)) (n_:Int):Option ((List Int)) :=
 (iter (ρ:=(List Int)) (fun s_1:(List Int) × Int =>
 cond (ltI s_1.2 (list.length:Int))
 ((at? list s_1.2).bind fun e_9 =>
 cond (eqI e_9 n_)
 ((room (s_1.1.length + [s_1.2].length) 8).bind fun _ =>
 some (.inl (s_1.1 ++ [s_1.2],addI s_1.2 1)))
 (some (.inl (s_1.1,addI s_1.2 1))))
 (some (.inr s_1.1))) ([],0)).bind fun r_17 =>
 some r_17

def zdw (b_:Bool):Option (Int) :=
 cond b_
 (some 2)
 (some 0)

def zde (s:(List Int)) (v:Int):Option (Int) :=
 (iter (ρ:=(Int) ⊕ (Unit)) (fun s_1:Int =>
 cond (ltI s_1 (s.length:Int))
 ((at? s s_1).bind fun e_9 =>
 cond (eqI v e_9)
 (some (.inr (.inl s_1)))
 (some (.inl (addI s_1 1))))
 (some (.inr (.inr ())))) 0).bind fun r_15 =>
 Sum.elim (fun r_15 =>
 some r_15)
 (fun _r_15 =>
 some (-1)) r_15

def zar (s:(List Int)) (v:Int):Option (Bool) :=
 (zde s v).bind fun y_1 =>
 some (leI 0 y_1)

def zes (h_:THeap) (cell:Int):Option ((List Int)) :=
 (iter (ρ:=((List Int)) ⊕ (Unit)) (fun s_1:(List Int) × Int =>
 cond (neI s_1.2 (-1))
 ((zbd h_ s_1.2).bind fun y_9 =>
 cond y_9
 ((zar s_1.1 s_1.2).bind fun y_13 =>
 cond y_13
 (some (.inr (.inl s_1.1)))
 ((room (s_1.1.length + [s_1.2].length) 8).bind fun _ =>
 (at? h_.next s_1.2).bind fun e_19 =>
 some (.inl (s_1.1 ++ [s_1.2],e_19))))
 (some (.inr (.inr ()))))
 (cond (eqI cell (-1))
 ((zbd h_ s_1.2).bind fun y_25 =>
 cond y_25
 ((zar s_1.1 s_1.2).bind fun y_29 =>
 cond y_29
 (some (.inr (.inl s_1.1)))
 ((room (s_1.1.length + [s_1.2].length) 8).bind fun _ =>
 (at? h_.next s_1.2).bind fun e_35 =>
 some (.inl (s_1.1 ++ [s_1.2],e_35))))
 (some (.inr (.inr ()))))
 (some (.inr (.inl s_1.1))))) ([],cell)).bind fun r_40 =>
 Sum.elim (fun r_40 =>
 some r_40)
 (fun _r_40 =>
 some []) r_40

def zdf (h_:THeap):Option (TStructure) :=
 (zch h_).bind fun y_1 =>
 cond y_1
 (cond (ltI 10 (h_.next.length:Int))
 (some (⟨[],[]⟩:TStructure))
 ((zbm (h_.vars.length:Int) 1 4).bind fun y_6 =>
 cond y_6
 ((iter (ρ:=(List TNode) × (List Int)) (fun s_10:Int × (List TNode) × (List Int) =>
 cond (ltI s_10.1 (h_.next.length:Int))
 ((zey h_.next s_10.1).bind fun y_18 =>
 (zdw (ltI 1 (y_18.length:Int))).bind fun y_21 =>
 (iter (ρ:=(List Int) × (List Int)) (fun s_25:Int × (List Int) × (List Int) =>
 cond (ltI s_25.1 (h_.vars.length:Int))
 ((at? h_.vars s_25.1).bind fun e_33 =>
 (zdw (eqI e_33 s_10.1)).bind fun y_38 =>
 (room (s_25.2.1.length + [y_38].length) 8).bind fun _ =>
 (zes h_ e_33).bind fun y_43 =>
 (zar y_43 s_10.1).bind fun y_46 =>
 (zdw y_46).bind fun y_49 =>
 (room (s_25.2.2.length + [y_49].length) 8).bind fun _ =>
 some (.inl (addI s_25.1 1,s_25.2.1 ++ [y_38],s_25.2.2 ++ [y_49])))
 (some (.inr (s_25.2.1,s_25.2.2)))) (0,[],[])).bind fun r_54 =>
 (room (s_10.2.1.length + [(⟨r_54.1,r_54.2,y_21,0⟩:TNode)].length) 64).bind fun _ =>
 (iter (ρ:=(List Int)) (fun s_61:Int × (List Int) =>
 cond (ltI s_61.1 (h_.next.length:Int))
 ((at? h_.next s_10.1).bind fun e_69 =>
 (zdw (eqI e_69 s_61.1)).bind fun y_74 =>
 (room (s_61.2.length + [y_74].length) 8).bind fun _ =>
 some (.inl (addI s_61.1 1,s_61.2 ++ [y_74])))
 (some (.inr s_61.2))) (0,s_10.2.2)).bind fun r_79 =>
 some (.inl (addI s_10.1 1,s_10.2.1 ++ [(⟨r_54.1,r_54.2,y_21,0⟩:TNode)],r_79)))
 (some (.inr (s_10.2.1,s_10.2.2)))) (0,[],[])).bind fun r_84 =>
 some (⟨r_84.1,r_84.2⟩:TStructure))
 (some (⟨[],[]⟩:TStructure))))
 (some (⟨[],[]⟩:TStructure))

def zbo (h_:THeap):Option (TStructure) :=
 (zdf h_).bind fun y_1 =>
 (zfy y_1).bind fun y_4 =>
 some y_4

def zce (h_:THeap):Option (TStructure) :=
 (zbq h_).bind fun y_1 =>
 (zfn y_1).bind fun y_4 =>
 some y_4

def zbs (s1:(List Int)) (s2:(List Int)):Option (Bool) :=
 cond (neI (s1.length:Int) (s2.length:Int))
 (some false)
 ((iter (ρ:=(Unit) ⊕ (Unit)) (fun s_2:Int =>
 cond (ltI s_2 (s1.length:Int))
 ((at? s1 s_2).bind fun e_10 =>
 (at? s2 s_2).bind fun e_15 =>
 cond (neI e_10 e_15)
 (some (.inr (.inl ())))
 (some (.inl (addI s_2 1))))
 (some (.inr (.inr ())))) 0).bind fun r_21 =>
 Sum.elim (fun _r_21 =>
 some false)
 (fun _r_21 =>
 some true) r_21)

def zbl (x_:TNode) (y_:TNode):Option (Bool) :=
 (zbs x_.vars y_.vars).bind fun y_1 =>
 cond y_1
 ((zbs x_.reach y_.reach).bind fun y_5 =>
 cond y_5
 (cond (eqI x_.shared y_.shared)
 (some (eqI x_.many y_.many))
 (some false))
 (some false))
 (some false)

def zak (s1:(List TNode)) (s2:(List TNode)) (eq:(TNode→TNode→Option (Bool))):Option (Bool) :=
 cond (neI (s1.length:Int) (s2.length:Int))
 (some false)
 ((iter (ρ:=(Unit) ⊕ (Unit)) (fun s_2:Int =>
 cond (ltI s_2 (s1.length:Int))
 ((at? s1 s_2).bind fun e_13 =>
 (at? s2 s_2).bind fun e_19 =>
 (eq e_13 e_19).bind fun y_25 =>
 cond y_25
 (some (.inl (addI s_2 1)))
 (some (.inr (.inl ()))))
 (some (.inr (.inr ())))) 0).bind fun r_28 =>
 Sum.elim (fun _r_28 =>
 some false)
 (fun _r_28 =>
 some true) r_28)

def zbu (a_:TStructure) (b_:TStructure):Option (Bool) :=
 (zbs a_.next b_.next).bind fun y_1 =>
 cond y_1
 ((zak a_.nodes b_.nodes (fun x0 x1=>zbl x0 x1)).bind fun y_5 =>
 some y_5)
 (some false)

def zcb (s:TStructure):Option (Bool) :=
 (zfy s).bind fun y_1 =>
 (zbu s y_1).bind fun y_4 =>
 some y_4

def zea (s:TStructure):Option (Bool) :=
 (zfn s).bind fun y_1 =>
 (zba s y_1).bind fun y_4 =>
 some y_4

def zcc (a_:Int) (b_:Int):Option (Bool) :=
 (zaz a_).bind fun y_1 =>
 cond y_1
 ((zaz b_).bind fun y_5 =>
 cond y_5
 (cond (eqI b_ 1)
 (some true)
 (some (eqI a_ b_)))
 (some false))
 (some false)

def zds (a_:(List Int)) (b_:(List Int)):Option (Bool) :=
 cond (neI (a_.length:Int) (b_.length:Int))
 (some false)
 ((iter (ρ:=(Unit) ⊕ (Unit)) (fun s_2:Int =>
 cond (ltI s_2 (a_.length:Int))
 ((at? a_ s_2).bind fun e_10 =>
 (at? b_ s_2).bind fun e_15 =>
 (zcc e_10 e_15).bind fun y_20 =>
 cond y_20
 (some (.inl (addI s_2 1)))
 (some (.inr (.inl ()))))
 (some (.inr (.inr ())))) 0).bind fun r_24 =>
 Sum.elim (fun _r_24 =>
 some false)
 (fun _r_24 =>
 some true) r_24)

def zfc (x_:TNode) (y_:TNode):Option (Bool) :=
 (zds x_.vars y_.vars).bind fun y_1 =>
 cond y_1
 ((zds x_.reach y_.reach).bind fun y_5 =>
 cond y_5
 ((zcc x_.shared y_.shared).bind fun y_9 =>
 cond y_9
 ((zcc x_.many y_.many).bind fun y_13 =>
 some y_13)
 (some false))
 (some false))
 (some false)

def zdt (s:TStructure) (t:TStructure) (to_:(List Int)):Option (Bool) :=
 (at? s.nodes (subI (to_.length:Int) 1)).bind fun e_1 =>
 (at? to_ (subI (to_.length:Int) 1)).bind fun e_6 =>
 (at? t.nodes e_6).bind fun e_11 =>
 (zfc e_1 e_11).bind fun y_16 =>
 cond y_16
 ((iter (ρ:=(Unit) ⊕ (Unit)) (fun s_20:Int =>
 cond (leI s_20 (subI (to_.length:Int) 1))
 ((zcn s (subI (to_.length:Int) 1) s_20).bind fun y_28 =>
 (at? to_ (subI (to_.length:Int) 1)).bind fun _ =>
 (at? to_ s_20).bind fun e_36 =>
 (zcn t e_6 e_36).bind fun y_41 =>
 (zcc y_28 y_41).bind fun y_44 =>
 cond y_44
 ((zcn s s_20 (subI (to_.length:Int) 1)).bind fun y_48 =>
 (at? to_ s_20).bind fun _ =>
 (at? to_ (subI (to_.length:Int) 1)).bind fun _ =>
 (zcn t e_36 e_6).bind fun y_61 =>
 (zcc y_48 y_61).bind fun y_64 =>
 cond y_64
 (cond (ltI s_20 (subI (to_.length:Int) 1))
 ((at? to_ s_20).bind fun _ =>
 (at? to_ (subI (to_.length:Int) 1)).bind fun _ =>
 cond (eqI e_36 e_6)
 ((at? to_ (subI (to_.length:Int) 1)).bind fun _ =>
 (at? t.nodes e_6).bind fun _ =>
 cond (neI e_11.many 1)
 (some (.inr (.inl ())))
 (some (.inl (addI s_20 1))))
 (some (.inl (addI s_20 1))))
 (some (.inl (addI s_20 1))))
 (some (.inr (.inl ()))))
 (some (.inr (.inl ()))))
 (some (.inr (.inr ())))) 0).bind fun r_91 =>
 Sum.elim (fun _r_91 =>
 some false)
 (fun _r_91 =>
 some true) r_91)
 (some false)

def zdd (s:TStructure) (t:TStructure) (to_:(List Int)):Option (Bool) :=
 cond (neI (to_.length:Int) (s.nodes.length:Int))
 (some false)
 ((iter (ρ:=(Unit) ⊕ (Unit)) (fun s_2:Int =>
 cond (ltI s_2 (to_.length:Int))
 ((at? to_ s_2).bind fun e_10 =>
 (zbh e_10 0 (subI (t.nodes.length:Int) 1)).bind fun y_15 =>
 cond y_15
 ((slc to_ 0 (addI s_2 1)).bind fun z_19 =>
 (zdt s t z_19).bind fun y_26 =>
 cond y_26
 (some (.inl (addI s_2 1)))
 (some (.inr (.inl ()))))
 (some (.inr (.inl ()))))
 (some (.inr (.inr ())))) 0).bind fun r_30 =>
 Sum.elim (fun _r_30 =>
 some false)
 (fun _r_30 =>
 (iter (ρ:=(Bool) ⊕ (Unit)) (fun s_38:Int =>
 cond (ltI s_38 (t.nodes.length:Int))
 ((zci to_ s_38).bind fun y_46 =>
 cond y_46
 (some (.inl (addI s_38 1)))
 (some (.inr (.inl false))))
 (some (.inr (.inr ())))) 0).bind fun r_50 =>
 Sum.elim (fun r_50 =>
 some r_50)
 (fun _r_50 =>
 some true) r_50) r_30)

def zdm (self:TStructure→TStructure→(List Int)→Option ((List Int) × Bool)) (s:TStructure) (t:TStructure) (to_:(List Int)):Option ((List Int) × Bool) :=
 cond (eqI (to_.length:Int) (s.nodes.length:Int))
 ((zdd s t to_).bind fun y_2 =>
 some (to_,y_2))
 ((iter (ρ:=((List Int) × Bool) ⊕ (Unit)) (fun s_5:Int =>
 cond (ltI s_5 (t.nodes.length:Int))
 ((room (([]:List Int).length+to_.length) 8).bind fun _ =>
 (room (to_.length + [s_5].length) 8).bind fun _ =>
 (zdt s t (to_ ++ [s_5])).bind fun y_19 =>
 cond y_19
 ((self s t (to_ ++ [s_5])).bind fun y_23 =>
 cond y_23.2
 (some (.inr (.inl (y_23.1,true))))
 (some (.inl (addI s_5 1))))
 (some (.inl (addI s_5 1))))
 (some (.inr (.inr ())))) 0).bind fun r_27 =>
 Sum.elim (fun r_27 =>
 some (r_27.1,r_27.2))
 (fun _r_27 =>
 some ([],false)) r_27)
def zbp:((TStructure × TStructure × (List Int) × Unit)→Option ((List Int) × Bool))→(TStructure × TStructure × (List Int) × Unit)→Option ((List Int) × Bool):=fun self x=>zdm (fun s t to_=>self (s,t,to_,())) x.1 x.2.1 x.2.2.1
def zlu (s:TStructure) (t:TStructure) (to_:(List Int)):Option ((List Int) × Bool):=fixO zbp (s,t,to_,())
set_option maxRecDepth 100000 in
theorem zjy:∀ f g:(TStructure × TStructure × (List Int) × Unit)→Option ((List Int) × Bool),(∀ x,Le (f x) (g x))→∀ x,Le (zbp f x) (zbp g x):=by
 intro f g h x
 unfold zbp zdm
 repeat' (first | with_reducible exact Le.refl _ | with_reducible exact h _ | refine Le.bind ?_ (fun _=>?_) | refine Le.cond ?_ ?_ | refine Le.iter (fun _=>?_) _ | refine Le.elim (fun _=>?_) (fun _=>?_))

def zcd (s:TStructure) (t:TStructure):Option ((List Int) × Bool) :=
 (zlu s t []).bind fun y_1 =>
 cond y_1.2
 ((room (([]:List Int).length+y_1.1.length) 8).bind fun _ =>
 some (y_1.1,true))
 (some ([],false))

def zcw (s:TStructure) (t:TStructure):Option (Bool) :=
 (zcd s t).bind fun y_1 =>
 some y_1.2

def zdy (h_:THeap):Option (Bool) :=
 (iter (ρ:=(Unit) ⊕ (Unit)) (fun s_1:Int =>
 cond (ltI s_1 (h_.next.length:Int))
 ((zcu h_ s_1).bind fun y_9 =>
 cond (eqI (y_9.length:Int) 0)
 (some (.inr (.inl ())))
 ((at? y_9 (subI (y_9.length:Int) 1)).bind fun e_13 =>
 (at? h_.next e_13).bind fun e_18 =>
 cond (neI e_18 (-1))
 (some (.inr (.inl ())))
 (some (.inl (addI s_1 1)))))
 (some (.inr (.inr ())))) 0).bind fun r_24 =>
 Sum.elim (fun _r_24 =>
 some false)
 (fun _r_24 =>
 some true) r_24

def zft (vars:Int) (h_:THeap):Option (Bool) :=
 (zbh vars 1 4).bind fun y_1 =>
 cond y_1
 (cond (neI (h_.vars.length:Int) vars)
 (some false)
 (cond (ltI 6 (h_.next.length:Int))
 (some false)
 ((zdr h_).bind fun y_7 =>
 cond y_7
 ((zdy h_).bind fun y_11 =>
 cond y_11
 ((zel h_).bind fun y_15 =>
 (iter (ρ:=(Unit) ⊕ (Unit)) (fun s_18:Int =>
 cond (ltI s_18 (y_15.length:Int))
 ((at? y_15 s_18).bind fun e_26 =>
 cond (neI e_26 s_18)
 (some (.inr (.inl ())))
 (some (.inl (addI s_18 1))))
 (some (.inr (.inr ())))) 0).bind fun r_32 =>
 Sum.elim (fun _r_32 =>
 some false)
 (fun _r_32 =>
 some (eqI (y_15.length:Int) (h_.next.length:Int))) r_32)
 (some false))
 (some false))))
 (some false)

def zeb (t:TStructure) (h_:THeap):Option (Bool) :=
 (zbq h_).bind fun y_1 =>
 (zcw y_1 t).bind fun y_4 =>
 some y_4

def laws_FnBlurred (code:(List U8)):Option (Bool) :=
 (laws_big code).bind fun y_1 =>
 cond y_1
 (some true)
 ((zer code).bind fun y_5 =>
 (zfy y_5).bind fun y_8 =>
 (zco code).bind fun y_11 =>
 (zbf code).bind fun y_14 =>
 (zfn y_5).bind fun y_17 =>
 (zba y_8 y_17).bind fun y_20 =>
 cond y_20
 ((zau y_11.1 y_11.2).bind fun y_24 =>
 (zct y_11.1 y_11.2).bind fun y_27 =>
 cond (neS y_24 y_27)
 (some false)
 ((zbo y_14).bind fun y_31 =>
 (zce y_14).bind fun y_34 =>
 (zba y_31 y_34).bind fun y_37 =>
 cond y_37
 ((zcb y_5).bind fun y_41 =>
 (zea y_5).bind fun y_44 =>
 cond (neB y_41 y_44)
 (some false)
 ((zcb y_8).bind fun y_48 =>
 cond y_48
 ((zck 3 y_5).bind fun y_52 =>
 cond y_52
 ((iter (ρ:=(Bool) ⊕ (Unit)) (fun s_56:Int =>
 cond (ltI s_56 (y_8.nodes.length:Int))
 ((iter (ρ:=(Bool) ⊕ (Unit)) (fun s_64:Int =>
 cond (ltI s_64 s_56)
 ((zau y_8 s_56).bind fun y_72 =>
 (zau y_8 s_64).bind fun y_75 =>
 cond (eqS y_72 y_75)
 (some (.inr (.inl false)))
 (some (.inl (addI s_64 1))))
 (some (.inr (.inr ())))) 0).bind fun r_79 =>
 Sum.elim (fun r_79 =>
 some (.inr (.inl r_79)))
 (fun _r_79 =>
 some (.inl (addI s_56 1))) r_79)
 (some (.inr (.inr ())))) 0).bind fun r_87 =>
 Sum.elim (fun r_87 =>
 some r_87)
 (fun _r_87 =>
 (zcw y_5 y_8).bind fun y_95 =>
 cond y_95
 ((zft 3 y_14).bind fun y_99 =>
 cond y_99
 ((zbo y_14).bind fun _ =>
 (zeb y_31 y_14).bind fun y_105 =>
 some y_105)
 (some true))
 (some false)) r_87)
 (some true))
 (some false)))
 (some false)))
 (some false))

end Go.Ev


namespace Go.Ev
def codeP:List Nat→Nat
 | []=>0
 | x :: r=>2 ^ x * (2 * codeP r+1)
theorem pow_odd:∀ (x y a b:Nat),2 ^ x * (2 * a+1)=2 ^ y * (2 * b+1)→x=y∧a=b
 | 0,0,a,b,h=>⟨rfl,by rw [Nat.pow_zero,Nat.one_mul,Nat.one_mul] at h;omega⟩
 | 0,y+1,a,b,h=>by
  rw [Nat.pow_succ,Nat.mul_right_comm] at h
  generalize 2 ^ y * (2 * b+1)=m at h
  omega
 | x+1,0,a,b,h=>by
  rw [Nat.pow_succ,Nat.mul_right_comm] at h
  generalize 2 ^ x * (2 * a+1)=m at h
  omega
 | x+1,y+1,a,b,h=>by
  rw [Nat.pow_succ,Nat.pow_succ,Nat.mul_right_comm,Nat.mul_right_comm (2 ^ y)] at h
  have:=pow_odd x y a b (by omega)
  exact ⟨by omega,this.2⟩
theorem codeP_inj:∀ {p q:List Nat},codeP p=codeP q→p=q
 | [],[],_=>rfl
 | [],y :: q,h=>by
  rw [codeP,codeP] at h
  have:=Nat.mul_pos (Nat.pow_pos (n:=y) (show 0 < 2 by omega)) (show 0 < 2 * codeP q+1 by omega)
  omega
 | x :: p,[],h=>by
  rw [codeP,codeP] at h
  have:=Nat.mul_pos (Nat.pow_pos (n:=x) (show 0 < 2 by omega)) (show 0 < 2 * codeP p+1 by omega)
  omega
 | x :: p,y :: q,h=>by
  rw [codeP,codeP] at h
  obtain ⟨h1,h2⟩:=pow_odd _ _ _ _ h
  rw [h1,codeP_inj h2]
def pk (p:List Nat):Nat:=bigK+codeP p
theorem pk_inj {p q:List Nat} (h:pk p=pk q):p=q:=codeP_inj (by unfold pk at h;omega)
theorem pk_deep (p:List Nat):(pk p=deepK)=False:=by
 rw [eq_iff_iff,iff_false]
 unfold pk bigK deepK
 omega
theorem zif {d:Nat} {p q:List Nat} (h:p≠q):((d,pk p):Key)≠(d,pk q):=fun e=>h (pk_inj (Prod.mk.inj e).2)
theorem zma {p:List Nat} {j:Nat} {q:List Nat}:p≠p ++ j :: q:=fun h=>by
 have:=congrArg List.length h
 simp at this
theorem fork_ne {p q r:List Nat} {i j:Nat} (h:i≠j):p ++ i :: q≠p ++ j :: r:=fun e=>by
 have:=List.append_cancel_left e
 simp only [List.cons.injEq] at this
 exact h this.1

def szD (n:Nat) (cs:List D):Nat:=if n=0 then 1 else cs.length / n
mutual
def wfD:D→Prop
 | .sc _=>True
 | .sl n cs=>(0 < szD n cs∧cs.length=n * szD n cs)∧wfL cs
def wfL:List D→Prop
 | []=>True
 | c :: cs=>wfD c∧wfL cs
end
def bxC (d:Nat) (p:List Nat):D→C
 | .sc v=>.s v
 | .sl n cs=>.bs (d,pk p) n (szD n cs)
def bxL (d:Nat) (p:List Nat):Nat→List D→List C
 | _,[]=>[]
 | i,c :: cs=>bxC d (p ++ [i]) c :: bxL d p (i+1) cs
mutual
def subD (m:Mem) (d:Nat):List Nat→D→Prop
 | _,.sc _=>True
 | p,.sl _ cs=>m (d,pk p)=some (bxL d p 0 cs)∧subL m d p 0 cs
def subL (m:Mem) (d:Nat):List Nat→Nat→List D→Prop
 | _,_,[]=>True
 | p,i,c :: cs=>subD m d (p ++ [i]) c∧subL m d p (i+1) cs
end
mutual
def thawD (d:Nat):Plc→List Nat→D→List Gho
 | _,_,.sc _=>[]
 | pl,p,.sl n cs=>.thaw pl (pk p) (szD n cs) :: thawL d p 0 cs
def thawL (d:Nat):List Nat→Nat→List D→List Gho
 | _,_,[]=>[]
 | p,i,c :: cs=>thawD d (.mem (d,pk p) i) (p ++ [i]) c ++ thawL d p (i+1) cs
end
mutual
def frzD (d:Nat):Plc→List Nat→D→List Gho
 | _,_,.sc _=>[]
 | pl,p,.sl _ cs=>frzL d p 0 cs ++ [.frz pl]
def frzL (d:Nat):List Nat→Nat→List D→List Gho
 | _,_,[]=>[]
 | p,i,c :: cs=>frzD d (.mem (d,pk p) i) (p ++ [i]) c ++ frzL d p (i+1) cs
end
theorem wfL_app:∀ {cs ds:List D},wfL (cs ++ ds) ↔ wfL cs∧wfL ds
 | [],ds=>by simp [wfL]
 | c :: cs,ds=>by rw [List.cons_append,wfL,wfL,wfL_app (cs:=cs),and_assoc]


mutual
theorem zoi {m m':Mem} {d:Nat}:∀ {c:D} {p:List Nat},(∀ q,m' (d,pk (p ++ q))=m (d,pk (p ++ q)))→subD m d p c→subD m' d p c
 | .sc _,_,_,_=>by rw [subD];trivial
 | .sl n cs,p,h,hs=>by
  rw [subD] at hs ⊢
  exact ⟨by have:=h [];rw [List.append_nil] at this;rw [this];exact hs.1,zmq (fun j q _ _=>h (j :: q)) hs.2⟩
theorem zmq {m m':Mem} {d:Nat}:∀ {cs:List D} {p:List Nat} {i:Nat},(∀ j q,i≤j→j < i+cs.length→m' (d,pk (p ++ j :: q))=m (d,pk (p ++ j :: q)))→subL m d p i cs→subL m' d p i cs
 | [],_,_,_,_=>by rw [subL];trivial
 | c :: cs,p,i,h,hs=>by
  rw [subL] at hs ⊢
  rw [List.length_cons] at h
  exact ⟨zoi (fun q=>by have:=h i q (Nat.le_refl _) (by omega);rwa [show p ++ i :: q=p ++ [i] ++ q by simp] at this) hs.1,zmq (fun j q hj hj2=>h j q (by omega) (by omega)) hs.2⟩
end
theorem zkm (q1 q2:Key→Bool) (c:C):(c.kill q1).kill q2=c.kill fun k=>q1 k || q2 k:=by
 cases c with
 | ptr k off=>by_cases h1:q1 k=true <;> by_cases h2:q2 k=true <;> simp [C.kill,h1,h2]
 | bs k n sz=>by_cases h1:q1 k=true <;> by_cases h2:q2 k=true <;> simp [C.kill,h1,h2]
 | fn f caps =>
  have:(caps.any fun c=>q1 c.1 || q2 c.1)=(caps.any (fun c=>q1 c.1) || caps.any fun c=>q2 c.1):=by
   induction caps with
   | nil=>rfl
   | cons a r ih=>simp only [List.any_cons,ih];cases q1 a.1 <;> cases q2 a.1 <;> simp
  have e:∀ q:Key→Bool,(C.fn f caps).kill q=if (caps.any fun c=>q c.1)=true then .dead else .fn f caps:=fun q=>rfl
  rw [e q1,e (fun k=>q1 k || q2 k),this]
  cases h1:(caps.any fun c=>q1 c.1) with
  | true=>rfl
  | false=>rw [if_neg (by simp),e q2,Bool.false_or]
 | _=>rfl
theorem zpg (q1 q2:Key→Bool) (a:AV):(a.kill q1).kill q2=a.kill fun k=>q1 k || q2 k:=by
 cases a with
 | one c=>simp only [AV.kill,zkm]
 | ag cs=>simp only [AV.kill,List.map_map,Function.comp_def,zkm]
 | tu vs=>simp only [AV.kill,List.map_map,Function.comp_def,zkm]
theorem ofD_kill (q:Key→Bool) (m:Md) (x:D):(C.ofD m x).kill q=C.ofD m x:=by cases x <;> rfl
theorem ofD_killB (x:D):(C.ofD .own x).killB=C.ofD .own x:=by cases x <;> rfl
theorem bxC_kill {q:Key→Bool} {d:Nat} {p:List Nat} (h:q (d,pk p)=false) (x:D):(bxC d p x).kill q=bxC d p x:=by
 cases x with
 | sc v=>rfl
 | sl n cs=>simp [bxC,C.kill,h]
theorem zqs {q:Key→Bool} {d:Nat} {p:List Nat}:∀ {cs:List D} {i:Nat},(∀ j,i≤j→q (d,pk (p ++ [j]))=false)→(bxL d p i cs).map (C.kill q)=bxL d p i cs
 | [],_,_=>rfl
 | c :: cs,i,h=>by rw [bxL,List.map_cons,bxC_kill (h i (Nat.le_refl _)),zqs fun j hj=>h j (by omega)]
mutual
theorem subD_kill {q:Key→Bool} {m m':Mem} {d:Nat}:∀ {c:D} {p:List Nat},(∀ r,q (d,pk (p ++ r))=false)→(∀ r,m' (d,pk (p ++ r))=(m (d,pk (p ++ r))).map (List.map (C.kill q)))→subD m d p c→subD m' d p c
 | .sc _,_,_,_,_=>by rw [subD];trivial
 | .sl n cs,p,hq,h,hs=>by
  rw [subD] at hs ⊢
  refine ⟨?_,zmp (fun j r _=>hq (j :: r)) (fun j r _=>h (j :: r)) hs.2⟩
  have:=h []
  rw [List.append_nil] at this
  rw [this,hs.1,Option.map_some,zqs fun j _=>hq [j]]
theorem zmp {q:Key→Bool} {m m':Mem} {d:Nat}:∀ {cs:List D} {p:List Nat} {i:Nat},(∀ j r,i≤j→q (d,pk (p ++ j :: r))=false)→(∀ j r,i≤j→m' (d,pk (p ++ j :: r))=(m (d,pk (p ++ j :: r))).map (List.map (C.kill q)))→subL m d p i cs→subL m' d p i cs
 | [],_,_,_,_,_=>by rw [subL];trivial
 | c :: cs,p,i,hq,h,hs=>by
  rw [subL] at hs ⊢
  exact ⟨subD_kill (fun r=>by have:=hq i r (Nat.le_refl _);rwa [show p ++ i :: r=p ++ [i] ++ r by simp] at this) (fun r=>by have:=h i r (Nat.le_refl _);rwa [show p ++ i :: r=p ++ [i] ++ r by simp] at this) hs.1,
   zmp (fun j r hj=>hq j r (by omega)) (fun j r hj=>h j r (by omega)) hs.2⟩
end

structure KB (σ:St):Prop where
 env:∀ t,(σ.env t).killB=σ.env t
 mem:∀ k cs,σ.mem k=some cs→∀ c∈cs,c.killB=c
theorem map_id_of {cs:List C} {f:C→C} (h:∀ c∈cs,f c=c):cs.map f=cs:=by
 have:=List.map_congr_left (f:=f) (g:=id) (l:=cs) h
 rw [this,List.map_id]
theorem KB.eq {σ:St} (h:KB σ):σ.killB=σ:=by
 cases σ with
 | mk env mem =>
  unfold St.killB
  congr 1
  ·exact funext h.env
  ·funext k
   have hm:=h.mem k
   show (mem k).map (List.map C.killB)=mem k
   cases hk:mem k with
   | none=>rfl
   | some cs=>rw [Option.map_some,map_id_of (hm cs hk)]
theorem zkr (d:Nat):∀ (l1 l2:List Gho) (σ:St),ghoLB d (l1 ++ l2) σ=(ghoLB d l1 σ).bind (ghoLB d l2)
 | [],_,_=>rfl
 | x :: l1,l2,σ=>by
  rw [List.cons_append,ghoLB,ghoLB]
  cases ghoB d σ x with
  | none=>rfl
  | some σ1=>simp only [Option.bind_some];exact zkr d l1 l2 σ1
theorem KB.put {σ:St} (h:KB σ) {m:Mem} (hm:∀ k cs,m k=some cs→(σ.mem k=some cs)∨∀ c∈cs,c.killB=c):KB { σ with mem:=m } :=
 ⟨h.env,fun k cs hk=>by
  rcases hm k cs hk with h1 | h1
  ·exact h.mem k cs h1
  ·exact h1⟩
theorem set_mid {α:Type} {pre rest:List α} {a b:α} {i:Nat} (h:pre.length=i):(pre ++ a :: rest).set i b=pre ++ b :: rest:=by
 subst h
 rw [List.set_append_right _ _ (Nat.le_refl _),Nat.sub_self,List.set_cons_zero]
theorem get_mid {α:Type} {pre rest:List α} {a:α} {i:Nat} (h:pre.length=i):(pre ++ a :: rest)[i]?=some a:=by
 subst h
 simp
theorem thaw_one {d i n:Nat} {p:List Nat} {σ:St} {pre rest:List C} {cs:List D} (hK:KB σ) (hi:pre.length=i) (hw:0 < szD n cs∧cs.length=n * szD n cs)
 (hm:σ.mem (d,pk p)=some (pre ++ .l .own n cs :: rest)) (hf:σ.mem (d,pk (p ++ [i]))=none) :
 ∃ σ1,ghoB d σ (.thaw (.mem (d,pk p) i) (pk (p ++ [i])) (szD n cs))=some σ1∧KB σ1∧σ1.env=σ.env∧σ1.mem (d,pk p)=some (pre ++ .bs (d,pk (p ++ [i])) n (szD n cs) :: rest) ∧
  σ1.mem (d,pk (p ++ [i]))=some (cs.map (C.ofD .own))∧∀ k,k≠(d,pk p)→k≠(d,pk (p ++ [i]))→σ1.mem k=σ.mem k:=by
 have hne:((d,pk p):Key)≠(d,pk (p ++ [i])):=zif zma
 refine ⟨{ σ with mem:=upd (upd σ.mem (d,pk p) (some (pre ++ .bs (d,pk (p ++ [i])) n (szD n cs) :: rest))) (d,pk (p ++ [i])) (some (cs.map (C.ofD .own))) },?_,?_,rfl,?_,?_,?_⟩
 ·simp only [ghoB,Plc.loc,Option.bind_some,Loc.get,hm,get_mid hi,Loc.own?,hf]
  rw [if_pos (by simp [hw.1,pk_deep];exact hw.2)]
  rw [hK.eq]
  simp only [Loc.set,hm,set_mid hi,Md.elem]
 ·refine hK.put fun k c hk=>?_
  have hk':upd (upd σ.mem (d,pk p) (some (pre ++ .bs (d,pk (p ++ [i])) n (szD n cs) :: rest))) (d,pk (p ++ [i])) (some (cs.map (C.ofD .own))) k=some c:=hk
  unfold upd at hk'
  split at hk'
  ·cases hk'
   refine .inr fun x hx=>?_
   obtain ⟨y,_,rfl⟩:=List.mem_map.1 hx
   exact ofD_killB y
  ·split at hk'
   ·cases hk'
    refine .inr fun x hx=>?_
    rcases List.mem_append.1 hx with hx | hx
    ·exact hK.mem _ _ hm x (List.mem_append.2 (.inl hx))
    ·rcases List.mem_cons.1 hx with rfl | hx
     ·rfl
     ·exact hK.mem _ _ hm x (List.mem_append.2 (.inr (List.mem_cons_of_mem _ hx)))
   ·exact .inl hk'
 ·show upd (upd _ _ _) _ _ _=_
  unfold upd
  rw [if_neg hne,if_pos rfl]
 ·show upd (upd _ _ _) _ _ _=_
  unfold upd
  rw [if_pos rfl]
 ·intro k h1 h2
  show upd (upd _ _ _) _ _ _=_
  unfold upd
  rw [if_neg h2,if_neg h1]
mutual
theorem thawD_ok {d:Nat}:∀ (c:D) (p:List Nat) (i:Nat) (σ:St) (pre rest:List C),KB σ→wfD c→pre.length=i→σ.mem (d,pk p)=some (pre ++ C.ofD .own c :: rest)→(∀ q,σ.mem (d,pk (p ++ i :: q))=none) →
 ∃ σ',ghoLB d (thawD d (.mem (d,pk p) i) (p ++ [i]) c) σ=some σ'∧KB σ'∧σ'.env=σ.env∧σ'.mem (d,pk p)=some (pre ++ bxC d (p ++ [i]) c :: rest)∧subD σ'.mem d (p ++ [i]) c ∧
  ∀ k,k≠(d,pk p)→(∀ q,k≠(d,pk (p ++ i :: q)))→σ'.mem k=σ.mem k
 | .sc v,p,i,σ,pre,rest,hK,_,_,hm,_=>⟨σ,by rw [thawD];rfl,hK,rfl,hm,by rw [subD];trivial,fun _ _ _=>rfl⟩
 | .sl n cs,p,i,σ,pre,rest,hK,hw,hi,hm,hf=>by
  rw [wfD] at hw
  obtain ⟨σ1,h1,hK1,he1,hp1,hc1,ho1⟩:=thaw_one hK hi hw.1 hm (hf [])
  obtain ⟨σ2,h2,hK2,he2,hp2,hs2,ho2⟩:=thawL_ok cs (p ++ [i]) 0 σ1 [] hK1 hw.2 rfl hc1 (fun j q _=>by
   rw [ho1 _ (zif (by simp)) (zif (by simp))]
   have:=hf (j :: q)
   simpa using this)
  refine ⟨σ2,by rw [thawD,ghoLB,h1,Option.bind_some,h2],hK2,he2.trans he1,?_,?_,fun k hk1 hk2=>?_⟩
  ·rw [ho2 _ (zif zma) (fun j q _=>zif (by simp)),hp1]
   rfl
  ·rw [subD]
   exact ⟨by rw [hp2];rfl,hs2⟩
  ·rw [ho2 k (by have:=hk2 [];simpa using this) (fun j q _=>by have:=hk2 (j :: q);simpa using this),ho1 k hk1 (by have:=hk2 [];simpa using this)]
theorem thawL_ok {d:Nat}:∀ (cs:List D) (p:List Nat) (i:Nat) (σ:St) (pre:List C),KB σ→wfL cs→pre.length=i→σ.mem (d,pk p)=some (pre ++ cs.map (C.ofD .own))→(∀ j q,i≤j→σ.mem (d,pk (p ++ j :: q))=none) →
 ∃ σ',ghoLB d (thawL d p i cs) σ=some σ'∧KB σ'∧σ'.env=σ.env∧σ'.mem (d,pk p)=some (pre ++ bxL d p i cs)∧subL σ'.mem d p i cs ∧
  ∀ k,k≠(d,pk p)→(∀ j q,i≤j→k≠(d,pk (p ++ j :: q)))→σ'.mem k=σ.mem k
 | [],p,i,σ,pre,hK,_,_,hm,_=>⟨σ,by rw [thawL];rfl,hK,rfl,hm,by rw [subL];trivial,fun _ _ _=>rfl⟩
 | c :: cs,p,i,σ,pre,hK,hw,hi,hm,hf=>by
  rw [wfL] at hw
  obtain ⟨σ1,h1,hK1,he1,hp1,hs1,ho1⟩:=thawD_ok c p i σ pre (cs.map (C.ofD .own)) hK hw.1 hi hm (fun q=>hf i q (Nat.le_refl _))
  obtain ⟨σ2,h2,hK2,he2,hp2,hs2,ho2⟩:=thawL_ok cs p (i+1) σ1 (pre ++ [bxC d (p ++ [i]) c]) hK1 hw.2 (by simp [hi]) (by rw [hp1];simp) (fun j q hj=>by
   rw [ho1 _ (zif fun e=>zma e.symm) (fun r=>zif (fork_ne (by omega)))]
   exact hf j q (by omega))
  refine ⟨σ2,by rw [thawL,zkr,h1,Option.bind_some,h2],hK2,he2.trans he1,?_,?_,fun k hk1 hk2=>?_⟩
  ·rw [hp2,bxL];simp
  ·rw [subL]
   refine ⟨zoi (fun q=>?_) hs1,hs2⟩
   rw [show p ++ [i] ++ q=p ++ i :: q by simp]
   exact ho2 _ (zif fun e=>zma e.symm) (fun j r hj=>zif (fork_ne (by omega)))
  ·rw [ho2 k hk1 (fun j q hj=>hk2 j q (by omega)),ho1 k hk1 (fun q=>hk2 i q (Nat.le_refl _))]
end

theorem mode_own (cs:List D):modeOf (cs.map (C.ofD .own))=some .own:=by
 unfold modeOf
 rw [if_pos]
 rw [List.all_eq_true]
 intro x hx
 obtain ⟨y,_,rfl⟩:=List.mem_map.1 hx
 exact ownD_ofD y
theorem frz_one {d i n:Nat} {p:List Nat} {σ:St} {pre rest:List C} {cs:List D} (hi:pre.length=i) (hw:0 < szD n cs∧cs.length=n * szD n cs)
 (hm:σ.mem (d,pk p)=some (pre ++ .bs (d,pk (p ++ [i])) n (szD n cs) :: rest)) (hc:σ.mem (d,pk (p ++ [i]))=some (cs.map (C.ofD .own))) :
 ∃ σ1,ghoB d σ (.frz (.mem (d,pk p) i))=some σ1∧(∀ t,σ1.env t=(σ.env t).kill (· == (d,pk (p ++ [i])))) ∧
  σ1.mem (d,pk p)=some (pre.map (C.kill (· == (d,pk (p ++ [i])))) ++ .l .own n cs :: rest.map (C.kill (· == (d,pk (p ++ [i])))))∧σ1.mem (d,pk (p ++ [i]))=none ∧
  ∀ k,k≠(d,pk p)→k≠(d,pk (p ++ [i]))→σ1.mem k=(σ.mem k).map (List.map (C.kill (· == (d,pk (p ++ [i]))))):=by
 have hne:((d,pk p):Key)≠(d,pk (p ++ [i])):=zif zma
 generalize hkey:((d,pk (p ++ [i])):Key)=key at *
 have hkd:key.1=d:=by rw [← hkey]
 have hmk:(σ.killK key).mem (d,pk p)=some (pre.map (C.kill (· == key)) ++ .dead :: rest.map (C.kill (· == key))):=by
  show memKill (· == key) σ.mem (d,pk p)=_
  unfold memKill
  rw [if_neg (by simpa using hne),hm]
  simp [C.kill]
 refine ⟨{ σ.killK key with mem:=upd (σ.killK key).mem (d,pk p) (some (pre.map (C.kill (· == key)) ++ .l .own n cs :: rest.map (C.kill (· == key)))) },?_,fun t=>rfl,?_,?_,?_⟩
 ·have hlen:(cs.map (C.ofD .own)).length=n * szD n cs:=by rw [List.length_map];exact hw.2
  simp only [ghoB,Plc.loc,Option.bind_some,Loc.get,hm,get_mid hi,hc,List.take_of_length_le (Nat.le_of_eq hlen),mode_own,zmh]
  rw [if_pos ⟨hkd,hlen,hw.1,by simpa [Loc.notK] using hne⟩]
  simp only [Loc.set,hmk]
  rw [set_mid (by simpa using hi)]
 ·show upd _ _ _ _=_
  unfold upd
  rw [if_pos rfl]
 ·show upd _ _ _ _=_
  unfold upd
  rw [if_neg (fun e=>hne e.symm)]
  show memKill (· == key) σ.mem key=_
  unfold memKill
  rw [if_pos (by simp)]
 ·intro k h1 h2
  show upd _ _ _ _=_
  unfold upd
  rw [if_neg h1]
  show memKill (· == key) σ.mem k=_
  unfold memKill
  rw [if_neg (by simpa using h2)]
theorem zgu (q1 q2:Key→Bool) (cs:List C):(cs.map (C.kill q1)).map (C.kill q2)=cs.map (C.kill fun k=>q1 k || q2 k):=by
 rw [List.map_map];exact List.map_congr_left fun x _=>zkm q1 q2 x
mutual
theorem frzD_ok {d:Nat}:∀ (c:D) (p:List Nat) (i:Nat) (σ:St) (pre rest:List C),wfD c→pre.length=i→σ.mem (d,pk p)=some (pre ++ bxC d (p ++ [i]) c :: rest)→subD σ.mem d (p ++ [i]) c →
 ∃ (σ':St) (q:Key→Bool),ghoLB d (frzD d (.mem (d,pk p) i) (p ++ [i]) c) σ=some σ'∧(∀ k,q k=true→∃ r,k=(d,pk (p ++ i :: r)))∧(∀ t,σ'.env t=(σ.env t).kill q) ∧
  σ'.mem (d,pk p)=some (pre.map (C.kill q) ++ C.ofD .own c :: rest.map (C.kill q))∧(∀ k,q k=true→σ'.mem k=none) ∧
  ∀ k,k≠(d,pk p)→q k=false→σ'.mem k=(σ.mem k).map (List.map (C.kill q))
 | .sc v,p,i,σ,pre,rest,_,hi,hm,_=>⟨σ,fun _=>false,by rw [frzD];rfl,fun k h=>absurd h (by simp),fun t=>by rw [AV.kill_none],by rw [zcf,zcf];exact hm,fun k h=>absurd h (by simp),fun k _ _=>by
  cases hk:σ.mem k with
  | none=>rfl
  | some cs=>rw [Option.map_some,zcf]⟩
 | .sl n cs,p,i,σ,pre,rest,hw,hi,hm,hs=>by
  rw [wfD] at hw
  rw [subD] at hs
  obtain ⟨σ1,q1,h1,hq1,he1,hp1,hn1,ho1⟩:=frzL_ok cs (p ++ [i]) 0 σ [] hw.2 rfl (by rw [hs.1];rfl) hs.2
  have hq0:q1 (d,pk p)=false:=by
   cases hq:q1 (d,pk p) with
   | false=>rfl
   | true=>obtain ⟨j,r,_,e⟩:=hq1 _ hq;exact absurd (pk_inj (Prod.mk.inj e).2) (by simp)
  have hq2:q1 (d,pk (p ++ [i]))=false:=by
   cases hq:q1 (d,pk (p ++ [i])) with
   | false=>rfl
   | true=>obtain ⟨j,r,_,e⟩:=hq1 _ hq;exact absurd (pk_inj (Prod.mk.inj e).2) (by simp)
  have hm1:σ1.mem (d,pk p)=some (pre.map (C.kill q1) ++ .bs (d,pk (p ++ [i])) n (szD n cs) :: rest.map (C.kill q1)):=by
   rw [ho1 _ (zif zma) hq0,hm,Option.map_some,List.map_append,List.map_cons,bxC_kill hq2]
   rfl
  obtain ⟨σ2,h2,he2,hp2,hn2,ho2⟩:=frz_one (d:=d) (i:=i) (n:=n) (p:=p) (by simpa using hi) hw.1 hm1 (by simpa using hp1)
  refine ⟨σ2,fun k=>q1 k || k == (d,pk (p ++ [i])),by rw [frzD,zkr,h1,Option.bind_some,ghoLB,h2];rfl,fun k hk=>?_,fun t=>?_,?_,fun k hk=>?_,fun k hk1 hk2=>?_⟩
  ·simp only [Bool.or_eq_true,beq_iff_eq] at hk
   rcases hk with hk | hk
   ·obtain ⟨j,r,_,e⟩:=hq1 k hk
    exact ⟨j :: r,by rw [e];simp⟩
   ·exact ⟨[],hk⟩
  ·rw [he2,he1,zpg]
  ·rw [hp2,zgu,zgu]
   rfl
  ·simp only [Bool.or_eq_true,beq_iff_eq] at hk
   by_cases hk3:k=(d,pk (p ++ [i]))
   ·rw [hk3];exact hn2
   ·have hk4:=hk.resolve_right hk3
    rw [ho2 k (fun e=>by rw [e] at hk4;rw [hq0] at hk4;cases hk4) hk3,hn1 k hk4];rfl
  ·simp only [Bool.or_eq_false_iff,beq_eq_false_iff_ne] at hk2
   rw [ho2 k hk1 hk2.2,ho1 k hk2.2 hk2.1]
   cases σ.mem k with
   | none=>rfl
   | some c=>simp only [Option.map_some,zgu]
theorem frzL_ok {d:Nat}:∀ (cs:List D) (p:List Nat) (i:Nat) (σ:St) (pre:List C),wfL cs→pre.length=i→σ.mem (d,pk p)=some (pre ++ bxL d p i cs)→subL σ.mem d p i cs →
 ∃ (σ':St) (q:Key→Bool),ghoLB d (frzL d p i cs) σ=some σ'∧(∀ k,q k=true→∃ j r,i≤j∧k=(d,pk (p ++ j :: r)))∧(∀ t,σ'.env t=(σ.env t).kill q) ∧
  σ'.mem (d,pk p)=some (pre.map (C.kill q) ++ cs.map (C.ofD .own))∧(∀ k,q k=true→σ'.mem k=none) ∧
  ∀ k,k≠(d,pk p)→q k=false→σ'.mem k=(σ.mem k).map (List.map (C.kill q))
 | [],p,i,σ,pre,_,hi,hm,_=>⟨σ,fun _=>false,by rw [frzL];rfl,fun k h=>absurd h (by simp),fun t=>by rw [AV.kill_none],by rw [zcf];exact hm,fun k h=>absurd h (by simp),fun k _ _=>by
  cases hk:σ.mem k with
  | none=>rfl
  | some cs=>rw [Option.map_some,zcf]⟩
 | c :: cs,p,i,σ,pre,hw,hi,hm,hs=>by
  rw [wfL] at hw
  rw [subL] at hs
  obtain ⟨σ1,q1,h1,hq1,he1,hp1,hn1,ho1⟩:=frzD_ok c p i σ pre (bxL d p (i+1) cs) hw.1 hi hm hs.1
  have hqt:∀ j r,i+1≤j→q1 (d,pk (p ++ j :: r))=false:=fun j r hj=>by
   cases hq:q1 (d,pk (p ++ j :: r)) with
   | false=>rfl
   | true=>obtain ⟨r',e⟩:=hq1 _ hq;exact absurd (pk_inj (Prod.mk.inj e).2) (fork_ne (by omega))
  have hq0:q1 (d,pk p)=false:=by
   cases hq:q1 (d,pk p) with
   | false=>rfl
   | true=>obtain ⟨r,e⟩:=hq1 _ hq;exact absurd (pk_inj (Prod.mk.inj e).2) zma
  obtain ⟨σ2,q2,h2,hq2,he2,hp2,hn2,ho2⟩:=frzL_ok cs p (i+1) σ1 (pre.map (C.kill q1) ++ [C.ofD .own c]) hw.2 (by simp [hi])
   (by rw [hp1,zqs fun j hj=>hqt j [] hj];simp)
   (zmp (fun j r hj=>hqt j r hj) (fun j r hj=>ho1 _ (zif fun e=>zma e.symm) (hqt j r hj)) hs.2)
  refine ⟨σ2,fun k=>q1 k || q2 k,by rw [frzL,zkr,h1,Option.bind_some,h2],fun k hk=>?_,fun t=>?_,?_,fun k hk=>?_,fun k hk1 hk2=>?_⟩
  ·simp only [Bool.or_eq_true] at hk
   rcases hk with hk | hk
   ·obtain ⟨r,e⟩:=hq1 k hk;exact ⟨i,r,Nat.le_refl _,e⟩
   ·obtain ⟨j,r,hj,e⟩:=hq2 k hk;exact ⟨j,r,by omega,e⟩
  ·rw [he2,he1,zpg]
  ·rw [hp2,List.map_append,zgu,List.map_cons,List.map_nil,ofD_kill];simp
  ·simp only [Bool.or_eq_true] at hk
   cases hk2:q2 k with
   | true=>exact hn2 k hk2
   | false =>
    have hk1:=hk.resolve_right (by simp [hk2])
    rw [ho2 k (fun e=>by rw [e] at hk1;rw [hq0] at hk1;cases hk1) hk2,hn1 k hk1];rfl
  ·simp only [Bool.or_eq_false_iff] at hk2
   rw [ho2 k hk1 hk2.2,ho1 k hk1 hk2.1]
   cases σ.mem k with
   | none=>rfl
   | some c=>simp only [Option.map_some,zgu]
end
end Go.Ev


namespace Go.Ev
def cellsOf:AV→List C
 | .one c=>[c]
 | .ag cs=>cs
 | .tu _=>[]
end Go.Ev


namespace Go.Ev
mutual
theorem subD_uniq {m:Mem} {d:Nat}:∀ {c c':D} {p:List Nat},bxC d p c=bxC d p c'→subD m d p c→subD m d p c'→c=c'
 | .sc v,.sc v',p,h,_,_=>by simp only [bxC,C.s.injEq] at h;rw [h]
 | .sc v,.sl n cs,p,h,_,_=>by simp [bxC] at h
 | .sl n cs,.sc v,p,h,_,_=>by simp [bxC] at h
 | .sl n cs,.sl n' cs',p,h,h1,h2=>by
  rw [subD] at h1 h2
  simp only [bxC,C.bs.injEq] at h
  have he:bxL d p 0 cs=bxL d p 0 cs':=Option.some.inj (h1.1.symm.trans h2.1)
  rw [subL_uniq he h1.2 h2.2,h.2.1]
theorem subL_uniq {m:Mem} {d:Nat}:∀ {cs cs':List D} {p:List Nat} {i:Nat},bxL d p i cs=bxL d p i cs'→subL m d p i cs→subL m d p i cs'→cs=cs'
 | [],[],_,_,_,_,_=>rfl
 | [],_ :: _,_,_,h,_,_=>by simp [bxL] at h
 | _ :: _,[],_,_,h,_,_=>by simp [bxL] at h
 | c :: cs,c' :: cs',p,i,h,h1,h2=>by
  rw [bxL,bxL,List.cons.injEq] at h
  rw [subL] at h1 h2
  rw [subD_uniq h.1 h1.1 h2.1,subL_uniq h.2 h1.2 h2.2]
end
structure MemR (mem0 mem:Mem) (d:Nat) (p:List Nat) (i n:Nat):Prop where
 clo:∀ q:Key→Bool,(∀ key:Key,key.1=d→q key=false)→memKill q mem0=mem0→memKill q mem=mem
 far:∀ key,(∀ j r,i≤j→j < i+n→key≠(d,pk (p ++ j :: r)))→mem key=mem0 key
end Go.Ev


namespace Go.Ev
open Enc (enc)
theorem szD_encL {α:Type} [Enc α] {xs:List α} (h:xs≠[]):szD xs.length (encL xs)=Enc.sz α:=by
 unfold szD
 have:0 < xs.length:=List.length_pos_iff.2 h
 rw [if_neg (by omega),zeu,Nat.mul_div_cancel_left _ this]
class WfE (α:Type) [Enc α]:Prop where
 wfE:∀ x:α,wfL (enc x)
instance:WfE Int:=⟨fun x=>by rw [enc_int];simp [wfL,wfD]⟩
instance:WfE Bool:=⟨fun x=>by rw [enc_bool];simp [wfL,wfD]⟩
instance:WfE ByteArray:=⟨fun x=>by rw [enc_str];simp [wfL,wfD]⟩
theorem wf_encL {α:Type} [Enc α] [WfE α]:∀ xs:List α,wfL (encL xs)
 | []=>by rw [encL_nil,wfL];trivial
 | x :: xs=>by rw [zbj,wfL_app];exact ⟨WfE.wfE x,wf_encL xs⟩
instance {α:Type} [Enc α] [WfE α]:WfE (List α):=⟨fun xs=>by
 rw [enc_list,wfL,wfL,wfD]
 refine ⟨⟨?_,wf_encL xs⟩,trivial⟩
 by_cases h:xs=[]
 ·subst h;simp [szD]
 ·rw [szD_encL h];exact ⟨Enc.pos,by rw [zeu]⟩⟩
structure MemU (mem0 mem:Mem) (d:Nat) (r:List Nat):Prop where
 clo:∀ q:Key→Bool,(∀ key:Key,key.1=d→q key=false)→memKill q mem0=mem0→memKill q mem=mem
 far:∀ key,(∀ s,key≠(d,pk (r ++ s)))→mem key=mem0 key
theorem MemU.refl (mem:Mem) (d:Nat) (r:List Nat):MemU mem mem d r:=⟨fun _ _ h=>h,fun _ _=>rfl⟩
theorem MemU.trans {m0 m1 m2:Mem} {d:Nat} {r:List Nat} (h1:MemU m0 m1 d r) (h2:MemU m1 m2 d r):MemU m0 m2 d r :=
 ⟨fun q hq h=>h2.clo q hq (h1.clo q hq h),fun key hk=>(h2.far key hk).trans (h1.far key hk)⟩
theorem MemU.tight {m0 m:Mem} {d D:Nat} {r:List Nat} (h:MemU m0 m d r) (hd:d≤D) (hT:Tight D m0):Tight D m :=
 h.clo _ (fun key hk=>by simp;omega) hT
theorem MemR.up {m0 m:Mem} {d:Nat} {r:List Nat} {i n:Nat} (h:MemR m0 m d r i n):MemU m0 m d r :=
 ⟨h.clo,fun key hk=>h.far key fun j s _ _=>hk (j :: s)⟩
theorem MemR.trans {m0 m1 m2:Mem} {d:Nat} {p:List Nat} {i n:Nat} (h1:MemR m0 m1 d p i n) (h2:MemR m1 m2 d p i n):MemR m0 m2 d p i n :=
 ⟨fun q hq h=>h2.clo q hq (h1.clo q hq h),fun key hk=>(h2.far key hk).trans (h1.far key hk)⟩
theorem MemR.refl (m:Mem) (d:Nat) (p:List Nat) (i n:Nat):MemR m m d p i n:=⟨fun _ _ h=>h,fun _ _=>rfl⟩
theorem MemR.tight {m0 m:Mem} {d D:Nat} {p:List Nat} {i n:Nat} (h:MemR m0 m d p i n) (hd:d≤D) (hT:Tight D m0):Tight D m :=
 h.clo _ (fun key hk=>by simp;omega) hT
end Go.Ev


namespace Go.Ev
end Go.Ev




namespace Go.Ev
open Wf (wf)
open Sm (sm lg)
instance:Wf TNode:=⟨fun x=>wf x.vars∧wf x.reach∧wf x.shared∧wf x.many⟩
instance:Sm TNode:=⟨fun x=>sm x.vars∧sm x.reach,fun x=>lg x.vars∧lg x.reach,fun x h=>⟨Sm.le _ h.1,Sm.le _ h.2⟩⟩
instance:DecidableEq TNode:=fun a b=>by
 cases a;cases b
 simp only [TNode.mk.injEq]
 infer_instance
instance:Wf TStructure:=⟨fun x=>wf x.nodes∧wf x.next⟩
instance:Sm TStructure:=⟨fun x=>sm x.nodes∧sm x.next,fun x=>lg x.nodes∧lg x.next,fun x h=>⟨Sm.le _ h.1,Sm.le _ h.2⟩⟩
instance:DecidableEq TStructure:=fun a b=>by
 cases a;cases b
 simp only [TStructure.mk.injEq]
 infer_instance
instance:Wf THeap:=⟨fun x=>wf x.vars∧wf x.next⟩
instance:Sm THeap:=⟨fun x=>sm x.vars∧sm x.next,fun x=>lg x.vars∧lg x.next,fun x h=>⟨Sm.le _ h.1,Sm.le _ h.2⟩⟩
instance:DecidableEq THeap:=fun a b=>by
 cases a;cases b
 simp only [THeap.mk.injEq]
 infer_instance
end Go.Ev


namespace Go.Ev
open Wf (wf)
open Sm (sm lg)
end Go.Ev

