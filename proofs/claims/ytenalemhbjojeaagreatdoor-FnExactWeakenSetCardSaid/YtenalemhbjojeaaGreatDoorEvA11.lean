import Derived.Test.YtenalemhbjojeaaGreatDoorEvA10
import Derived.Test.YtenalemhbjojeaaGreatDoorProg
import Derived.KernelRfl
import Derived.Shelf.Strings.OnBuilder
import Derived.Shelf.Strconv.Itoa3
import Derived.WalkKit
import Derived.Test.YtenalemhbjojeaaGreatDoorEvA8
import Derived.Deep.LoopGhost
import Derived.Lib.Walk
import Derived.Lib.AppendStr
import Derived.Laws.IdiomStrings
import Derived.Laws.BytesArg
import Derived.IntWalk
import Derived.Below
import Derived.Shelf.Spec.SlicesInsertGrow
set_option linter.unusedSimpArgs false
set_option linter.unusedVariables false
set_option linter.unnecessarySimpa false
noncomputable section
namespace Go.Ev
open Wf (wf)
open Sm (sm lg)

def joinV (a b:Int):Int:=if a=b then (if 0≤a∧a≤2 then a else 1) else 1
theorem spec_join (a b:Int):zeg a b=some (joinV a b):=by
 unfold zeg joinV zbh
 rw [zdz]
 simp only [Option.bind_some,zai,neI,zek]
 by_cases h:a=b
 ·rw [if_pos h,if_pos h]
  by_cases h1:0≤a∧a≤2
  ·rw [if_pos h1,if_pos h1]
  ·rw [if_neg h1,if_neg h1]
 ·rw [if_neg h,if_neg h]
theorem impl_join (a b:Int):zfg a b=some (joinV a b):=by
 rw [← spec_join]
 unfold zfg zeg
 rw [zqh]
def rowG (s:TStructure) (i:Int) (b:List Int) (acc:Int):Int:=b.foldl (fun acc j=>joinV acc (nextV s i j)) acc
def nextG (s:TStructure) (a b:List Int):Int:=a.foldl (fun acc i=>rowG s i b acc) (nextV s (a.getD 0 0) (b.getD 0 0))
theorem zjw {α:Type} {xs:List α} (h:xs≠[]) (d:α):at? xs 0=some (xs.getD 0 d):=by
 have:=List.length_pos_iff.2 h
 exact at_in' (by omega) d
theorem spec_next (s:TStructure) {a b:List Int} (hs:small s.nodes.length) (ha:small a.length) (hb:small b.length) (a0:a≠[]) (b0:b≠[]):zdu s a b=some (nextG s a b):=by
 unfold small at ha hb
 unfold zdu
 rw [zjw a0 0,zjw b0 0]
 simp only [Option.bind_some,zib s _ _ hs]
 refine Tot.eq (Tot.bind (P:=(· = nextG s a b)) (Tot.loop (fun i q=>q=((a.take i).foldl (fun acc i=>rowG s i b acc) (nextV s (a.getD 0 0) (b.getD 0 0)),(i:Int))) a.length rfl fun i q hI hi=>?_) fun r hr=>by subst hr;exact Tot.ret rfl)
 subst hI
 by_cases hlt:i < a.length
 ·simp only [ltI,zai]
  rw [if_pos (by omega)]
  generalize hq:(a.take i).foldl (fun acc i=>rowG s i b acc) (nextV s (a.getD 0 0) (b.getD 0 0))=acc
  refine Tot.bind (P:=(· = rowG s a[i] b acc)) (Tot.loop (fun j q=>q=(rowG s a[i] (b.take j) acc,(j:Int))) b.length rfl fun j q hJ hj=>?_) fun r hr=>?_
  ·subst hJ
   by_cases hjl:j < b.length
   ·simp only [zcv,List.getElem?_eq_getElem hlt,List.getElem?_eq_getElem hjl,Option.bind_some,spec_join]
    rw [if_pos (by omega),zap (by omega) (by omega)]
    exact Tot.ret ⟨hjl,by rw [zde hjl];unfold rowG;rw [List.foldl_append];rfl⟩
   ·simp only
    rw [if_neg (by omega)]
    have:j=b.length:=by omega
    subst this
    exact Tot.ret (by show _=_;rw [List.take_length])
  ·subst hr
   rw [zap (by omega) (by omega)]
   exact Tot.ret ⟨hlt,by rw [zde hlt,List.foldl_append,hq];rfl⟩
 ·simp only [ltI,zai]
  rw [if_neg (by omega)]
  have:i=a.length:=by omega
  subst this
  exact Tot.ret (by show _=_;rw [List.take_length];rfl)
theorem impl_next (s:TStructure) {a b:List Int} (hs:small s.nodes.length) (ha:small a.length) (hb:small b.length) (a0:a≠[]) (b0:b≠[]):zdk s a b=some (nextG s a b):=by
 unfold small at ha hb
 unfold zdk
 rw [zjw a0 0,zjw b0 0]
 simp only [Option.bind_some,zoz s _ _ hs]
 refine Tot.eq (Tot.bind (P:=(· = nextG s a b)) (Tot.loop (fun i q=>q=((a.take i).foldl (fun acc i=>rowG s i b acc) (nextV s (a.getD 0 0) (b.getD 0 0)),(i:Int))) a.length rfl fun i q hI hi=>?_) fun r hr=>by subst hr;exact Tot.ret rfl)
 subst hI
 by_cases hlt:i < a.length
 ·simp only [ltI,zai,zcv,List.getElem?_eq_getElem hlt,Option.bind_some]
  rw [if_pos (by omega)]
  generalize hq:(a.take i).foldl (fun acc i=>rowG s i b acc) (nextV s (a.getD 0 0) (b.getD 0 0))=acc
  refine Tot.bind (P:=(· = rowG s a[i] b acc)) (Tot.loop (fun j q=>q=(rowG s a[i] (b.take j) acc,(j:Int))) b.length rfl fun j q hJ hj=>?_) fun r hr=>?_
  ·subst hJ
   by_cases hjl:j < b.length
   ·simp only [zcv,List.getElem?_eq_getElem hjl,Option.bind_some,impl_join]
    rw [if_pos (by omega),zap (by omega) (by omega)]
    exact Tot.ret ⟨hjl,by rw [zde hjl];unfold rowG;rw [List.foldl_append];rfl⟩
   ·simp only
    rw [if_neg (by omega)]
    have:j=b.length:=by omega
    subst this
    exact Tot.ret (by show _=_;rw [List.take_length])
  ·subst hr
   rw [zap (by omega) (by omega)]
   exact Tot.ret ⟨hlt,by rw [zde hlt,List.foldl_append,hq];rfl⟩
 ·simp only [ltI,zai]
  rw [if_neg (by omega)]
  have:i=a.length:=by omega
  subst this
  exact Tot.ret (by show _=_;rw [List.take_length];rfl)

def manyG (s:TStructure) (g:List Int):Int:=if 1 < g.length then 1 else if (s.nodes.getD (g.getD 0 0).toNat zN).many≠0 then 1 else (s.nodes.getD (g.getD 0 0).toNat zN).many
def nodeG (s:TStructure) (g:List Int):TNode:={ s.nodes.getD (g.getD 0 0).toNat zN with many:=manyG s g }
def inG (s:TStructure) (g:List Int):Prop:=∀ z∈g,0≤z∧z < (s.nodes.length:Int)
theorem zlt {α:Type} {xs:List α} {i:Nat} (h:i < xs.length) (d:α):xs.getD i d∈xs:=by simp [List.getD,h]
theorem spec_node {s:TStructure} (hs:shortS s) {g:List Int} (hg:small g.length) (g0:g≠[]) (hin:inG s g):zdt s g=some (nodeG s g):=by
 unfold small at hg
 have hp:=List.length_pos_iff.2 g0
 have h0:=hin _ (zlt hp 0)
 unfold zdt
 rw [zjw g0 0,Option.bind_some,at_in' h0 zN,Option.bind_some,copyNode _ (hs.e _ (zgl h0)),Option.bind_some]
 refine Tot.eq (Tot.bind (P:=(· = manyG s g)) (Tot.loop (fun i q=>q=((i:Int),if i=0 then (s.nodes.getD (g.getD 0 0).toNat zN).many else manyG s g)) g.length rfl fun i q hI hi=>?_) fun r hr=>by subst hr;exact Tot.ret rfl)
 subst hI
 by_cases hlt:i < g.length
 ·have hz:=hin _ (zlt hlt 0)
  simp only [ltI,zai,zrt hlt 0,Option.bind_some,at_in' hz zN,neI,zek]
  rw [if_pos (by omega),zap (by omega) (by omega)]
  by_cases h1:1 < g.length
  ·rw [if_pos (by omega)]
   exact Tot.ret ⟨hlt,by rw [if_neg (by omega)];unfold manyG;rw [if_pos h1];rfl⟩
  ·rw [if_neg (by omega)]
   have:i=0:=by omega
   subst this
   by_cases h2:(s.nodes.getD (g.getD 0 0).toNat zN).many=0
   ·rw [if_pos h2]
    exact Tot.ret ⟨hlt,by rw [if_pos rfl,if_neg (by omega)];unfold manyG;rw [if_neg h1,if_neg (fun h=>h h2)];rfl⟩
   ·rw [if_neg h2]
    exact Tot.ret ⟨hlt,by rw [if_neg (by omega)];unfold manyG;rw [if_neg h1,if_pos h2];rfl⟩
 ·simp only [ltI,zai]
  rw [if_neg (by omega)]
  exact Tot.ret (by show _=_;rw [if_neg (by omega)])
theorem impl_many {s:TStructure} {g:List Int} (hg:small g.length) (g0:g≠[]) (hin:inG s g):Tot (iter (ρ:=Int) (fun s_42:Int × Int =>
                 cond (ltI s_42.1 (g.length:Int))
                  ((at? g s_42.1).bind fun e_50 =>
                   cond (ltI 0 s_42.1)
                    (some (.inl (addI s_42.1 1,1)))
                    ((at? s.nodes e_50).bind fun e_56 =>
                     cond (neI e_56.many 0)
                      (some (.inl (addI s_42.1 1,1)))
                      (some (.inl (addI s_42.1 1,s_42.2)))))
                  (some (.inr s_42.2))) (0,(s.nodes.getD (g.getD 0 0).toNat zN).many)) (· = manyG s g):=by
 unfold small at hg
 have hp:=List.length_pos_iff.2 g0
 refine Tot.loop (fun i q=>q=((i:Int),if i=0 then (s.nodes.getD (g.getD 0 0).toNat zN).many else if i=1 then (if (s.nodes.getD (g.getD 0 0).toNat zN).many≠0 then 1 else (s.nodes.getD (g.getD 0 0).toNat zN).many) else 1)) g.length rfl fun i q hI hi=>?_
 subst hI
 by_cases hlt:i < g.length
 ·have hz:=hin _ (zlt hlt 0)
  simp only [ltI,zai,zrt hlt 0,Option.bind_some,at_in' hz zN,neI,zek]
  rw [if_pos (by omega),zap (by omega) (by omega)]
  by_cases h1:0 < i
  ·rw [if_pos (by omega)]
   exact Tot.ret ⟨hlt,by rw [if_neg (by omega),if_neg (by omega)];rfl⟩
  ·rw [if_neg (by omega)]
   have:i=0:=by omega
   subst this
   by_cases h2:(s.nodes.getD (g.getD 0 0).toNat zN).many=0
   ·rw [if_pos h2]
    exact Tot.ret ⟨hlt,by rw [if_pos rfl,if_neg (by omega),if_pos rfl,if_neg (fun h=>h h2)];rfl⟩
   ·rw [if_neg h2]
    exact Tot.ret ⟨hlt,by rw [if_neg (by omega),if_pos rfl,if_pos h2];rfl⟩
 ·simp only [ltI,zai]
  rw [if_neg (by omega)]
  have:i=g.length:=by omega
  subst this
  refine Tot.ret ?_
  unfold manyG
  by_cases h1:1 < g.length
  ·show _=_
   rw [if_neg (by omega),if_neg (by omega),if_pos h1]
  ·show _=_
   rw [if_neg (by omega),if_pos (by omega),if_neg h1]
end Go.Ev


namespace Go.Ev
open Wf (wf)
open Sm (sm lg)

def gsF (s:TStructure):List (List Int):=grpO (namesL s s.nodes.length)
def blurG (s:TStructure) (gs:List (List Int)):TStructure:=⟨gs.map (nodeG s),gs.flatMap fun a=>gs.map (nextG s a)⟩
def blurF (s:TStructure):TStructure:=if s.nodes.length=0 then ⟨[],[]⟩ else if isStrB (varsF s) s=true then blurG s (gsF s) else s
structure Grp (s:TStructure) (gs:List (List Int)):Prop where
 l:gs.length≤10
 e:∀ g∈gs,g≠[]∧g.length≤10∧inG s g
theorem zqc (s:TStructure) (k:Nat):(namesL s k).length=k:=by simp [namesL]
theorem grp_ok {s:TStructure} (h:okB s):Grp s (gsF s):=by
 have hn:=h.n
 have hl:=zqc s s.nodes.length
 refine ⟨?_,fun g hg=>?_⟩
 ·unfold gsF grpO
  rw [List.length_map,(zft _).length_eq]
  have:=zim (namesL s s.nodes.length)
  omega
 ·unfold gsF grpO at hg
  obtain ⟨k,hk,rfl⟩:=List.mem_map.1 hg
  have hm:=(zix _ _).1 hk
  refine ⟨fun h0=>posN_nil.1 h0 hm,?_,fun z hz=>?_⟩
  ·have:=zkk k (namesL s s.nodes.length) 0
   omega
  ·have:=zpz hz
   omega
theorem zqw {s:TStructure} (hs:shortS s) {gs:List (List Int)} (hG:Grp s gs):Tot ((iter (ρ:=(List TNode) × (List Int)) (fun s_12:Int × (List TNode) × (List Int) =>
        cond (ltI s_12.1 (gs.length:Int))
         ((at? gs s_12.1).bind fun e_20 =>
          (zdt s e_20).bind fun y_25 =>
           (room (s_12.2.1.length + [y_25].length) 64).bind fun _ =>
            (iter (ρ:=(List Int)) (fun s_30:Int × (List Int) =>
             cond (ltI s_30.1 (gs.length:Int))
              ((at? gs s_12.1).bind fun _ =>
               (at? gs s_30.1).bind fun e_43 =>
                (zdu s e_20 e_43).bind fun y_48 =>
                 (room (s_30.2.length + [y_48].length) 8).bind fun _ =>
                  some (.inl (addI s_30.1 1,s_30.2 ++ [y_48])))
              (some (.inr s_30.2))) (0,s_12.2.2)).bind fun r_53 =>
             some (.inl (addI s_12.1 1,s_12.2.1 ++ [y_25],r_53)))
         (some (.inr (s_12.2.1,s_12.2.2)))) (0,[],[])).bind fun r_58 =>
       some (⟨r_58.1,r_58.2⟩:TStructure)) (· = blurG s gs):=by
 have hl:=hG.l
 have hrow:∀ m,((gs.take m).flatMap fun a=>gs.map (nextG s a)).length=(gs.take m).length * gs.length:=fun m=>zkr _ _ _ (fun x _=>by simp)
 refine Tot.bind (P:=(· = (gs.map (nodeG s),gs.flatMap fun a=>gs.map (nextG s a)))) (Tot.loop (fun i q=>q=((i:Int),(gs.take i).map (nodeG s),(gs.take i).flatMap fun a=>gs.map (nextG s a))) gs.length rfl fun i q hI hi=>?_) fun r hr=>by subst hr;exact Tot.ret rfl
 subst hI
 by_cases hlt:i < gs.length
 ·obtain ⟨g0,g1,g2⟩:=hG.e _ (List.getElem_mem hlt)
  have hi10:i * gs.length≤10 * 10:=Nat.mul_le_mul (by omega) (by omega)
  have hrl:((gs.take i).flatMap fun a=>gs.map (nextG s a)).length=i * gs.length:=by rw [hrow,List.length_take,Nat.min_eq_left (by omega)]
  simp only [ltI,zai,zcv,List.getElem?_eq_getElem hlt,Option.bind_some,spec_node hs (show small gs[i].length by unfold small;omega) g0 g2,List.length_map,List.length_take,List.length_singleton]
  rw [if_pos (by omega),zbq (by omega) (by omega),Option.bind_some]
  refine Tot.bind (P:=(· = (gs.take (i+1)).flatMap fun a=>gs.map (nextG s a))) (Tot.loop (fun j q=>q=((j:Int),((gs.take i).flatMap fun a=>gs.map (nextG s a)) ++ (gs.take j).map (nextG s gs[i]))) gs.length (by simp) fun j q hJ hj=>?_) fun r hr=>?_
  ·subst hJ
   by_cases hjl:j < gs.length
   ·obtain ⟨b0,b1,b2⟩:=hG.e _ (List.getElem_mem hjl)
    simp only [zcv,List.getElem?_eq_getElem hjl,Option.bind_some,spec_next s hs.n (show small gs[i].length by unfold small;omega) (show small gs[j].length by unfold small;omega) g0 b0,List.length_append,hrl,List.length_map,List.length_take,List.length_singleton]
    rw [if_pos (by omega),zbq (by omega) (by omega),Option.bind_some,zap (by omega) (by omega)]
    exact Tot.ret ⟨hjl,by rw [zde hjl,List.map_append,List.append_assoc];rfl⟩
   ·simp only
    rw [if_neg (by omega)]
    have:j=gs.length:=by omega
    subst this
    exact Tot.ret (by show _=_;rw [List.take_length,zde hlt,List.flatMap_append];simp)
  ·subst hr
   rw [zap (by omega) (by omega)]
   exact Tot.ret ⟨hlt,by rw [zde hlt,List.map_append];rfl⟩
 ·simp only [ltI,zai]
  rw [if_neg (by omega)]
  have:i=gs.length:=by omega
  subst this
  exact Tot.ret (by show _=_;rw [List.take_length])
theorem spec_blur {s:TStructure} (hs:shortS s):zgb s=some (blurF s):=by
 have hn:=hs.n
 unfold small at hn
 unfold zgb blurF
 simp only [eqI,zai,zit,Option.bind_some,zgg _ s hs]
 by_cases h0:s.nodes.length=0
 ·rw [if_pos (by omega),if_pos h0]
 ·rw [if_neg (by omega),if_neg h0]
  cases hc:isStrB (varsF s) s with
  | false =>
   rw [cond_false,zlb s hs,if_neg (by simp)]
   rfl
  | true =>
   have hb:=okB_of hs hc h0
   have hg:zex s=some (gsF s):=by
    unfold zex groupsT
    rw [zrj (fun i hi=>spec_name hb (by omega)) _ (Nat.le_refl _),Option.bind_some,if_pos (names_few hb)]
    rfl
   rw [cond_true,if_pos rfl,hg,Option.bind_some]
   exact (zqw hs (grp_ok hb)).eq
theorem zrp {s:TStructure} (hs:shortS s) {ls:List ByteArray} {es:List (ByteArray × List Int)} {F:ByteArray→List Int} (hE:∀ k∈ls,lookT k es=some (F k)) (hG:Grp s (ls.map F)):Tot ((iter (ρ:=(List TNode) × (List Int)) (fun s_11:Int × (List TNode) × (List Int) =>
        cond (ltI s_11.1 (ls.length:Int))
         ((at? ls s_11.1).bind fun e_19 =>
          (lookT e_19 es).bind fun y_24 =>
           (at? y_24 0).bind fun e_27 =>
            (at? s.nodes e_27).bind fun e_32 =>
             (zcw e_32).bind fun y_37 =>
              (lookT e_19 es).bind fun _ =>
               (iter (ρ:=Int) (fun s_42:Int × Int =>
                cond (ltI s_42.1 (y_24.length:Int))
                 ((at? y_24 s_42.1).bind fun e_50 =>
                  cond (ltI 0 s_42.1)
                   (some (.inl (addI s_42.1 1,1)))
                   ((at? s.nodes e_50).bind fun e_56 =>
                    cond (neI e_56.many 0)
                     (some (.inl (addI s_42.1 1,1)))
                     (some (.inl (addI s_42.1 1,s_42.2)))))
                 (some (.inr s_42.2))) (0,y_37.many)).bind fun r_62 =>
                (room (s_11.2.1.length + [(⟨y_37.vars,y_37.reach,y_37.shared,r_62⟩:TNode)].length) 64).bind fun _ =>
                 (iter (ρ:=(List Int)) (fun s_69:Int × (List Int) =>
                  cond (ltI s_69.1 (ls.length:Int))
                   ((at? ls s_69.1).bind fun e_77 =>
                    (lookT e_19 es).bind fun _ =>
                     (lookT e_77 es).bind fun y_83 =>
                      (zdk s y_24 y_83).bind fun y_86 =>
                       (room (s_69.2.length + [y_86].length) 8).bind fun _ =>
                        some (.inl (addI s_69.1 1,s_69.2 ++ [y_86])))
                   (some (.inr s_69.2))) (0,s_11.2.2)).bind fun r_91 =>
                  some (.inl (addI s_11.1 1,s_11.2.1 ++ [(⟨y_37.vars,y_37.reach,y_37.shared,r_62⟩:TNode)],r_91)))
         (some (.inr (s_11.2.1,s_11.2.2)))) (0,[],[])).bind fun r_96 =>
       some (⟨r_96.1,r_96.2⟩:TStructure)) (· = blurG s (ls.map F)):=by
 have hl:=hG.l
 rw [List.length_map] at hl
 have hgs:∀ {i:Nat} (h:i < ls.length),F ls[i]≠[]∧(F ls[i]).length≤10∧inG s (F ls[i]):=fun h=>hG.e _ (List.mem_map.2 ⟨_,List.getElem_mem h,rfl⟩)
 have hrow:∀ m,((ls.take m).flatMap fun a=>ls.map fun b=>nextG s (F a) (F b)).length=(ls.take m).length * ls.length:=fun m=>zkr _ _ _ (fun x _=>by simp)
 have hres:blurG s (ls.map F)=⟨ls.map fun a=>nodeG s (F a),ls.flatMap fun a=>ls.map fun b=>nextG s (F a) (F b)⟩:=by
  unfold blurG
  rw [List.map_map,List.flatMap_map]
  simp only [List.map_map]
  rfl
 rw [hres]
 refine Tot.bind (P:=(· = (ls.map (fun a=>nodeG s (F a)),ls.flatMap fun a=>ls.map fun b=>nextG s (F a) (F b)))) (Tot.loop (fun i q=>q=((i:Int),(ls.take i).map (fun a=>nodeG s (F a)),(ls.take i).flatMap fun a=>ls.map fun b=>nextG s (F a) (F b))) ls.length rfl fun i q hI hi=>?_) fun r hr=>by subst hr;exact Tot.ret rfl
 subst hI
 by_cases hlt:i < ls.length
 ·obtain ⟨g0,g1,g2⟩:=hgs hlt
  have hp:=List.length_pos_iff.2 g0
  have h0:=g2 _ (zlt hp 0)
  have hi10:i * ls.length≤10 * 10:=Nat.mul_le_mul (by omega) (by omega)
  have hrl:((ls.take i).flatMap fun a=>ls.map fun b=>nextG s (F a) (F b)).length=i * ls.length:=by rw [hrow,List.length_take,Nat.min_eq_left (by omega)]
  simp only [ltI,zai,zcv,List.getElem?_eq_getElem hlt,Option.bind_some,hE _ (List.getElem_mem hlt)]
  rw [if_pos (by omega),zjw g0 0,Option.bind_some,at_in' h0 zN,Option.bind_some,ownNode _ (hs.e _ (zgl h0)),Option.bind_some]
  have hm:=impl_many (s:=s) (show small (F ls[i]).length by unfold small;omega) g0 g2
  simp only [ltI,zai] at hm
  refine Tot.bind hm fun r hr=>?_
  subst hr
  simp only [List.length_map,List.length_take,List.length_singleton]
  rw [zbq (by omega) (by omega),Option.bind_some]
  refine Tot.bind (P:=(· = (ls.take (i+1)).flatMap fun a=>ls.map fun b=>nextG s (F a) (F b))) (Tot.loop (fun j q=>q=((j:Int),((ls.take i).flatMap fun a=>ls.map fun b=>nextG s (F a) (F b)) ++ (ls.take j).map fun b=>nextG s (F ls[i]) (F b))) ls.length (by simp) fun j q hJ hj=>?_) fun r hr=>?_
  ·subst hJ
   by_cases hjl:j < ls.length
   ·obtain ⟨b0,b1,b2⟩:=hgs hjl
    simp only [zcv,List.getElem?_eq_getElem hjl,Option.bind_some,hE _ (List.getElem_mem hjl),impl_next s hs.n (show small (F ls[i]).length by unfold small;omega) (show small (F ls[j]).length by unfold small;omega) g0 b0,List.length_append,hrl,List.length_map,List.length_take,List.length_singleton]
    rw [if_pos (by omega),zbq (by omega) (by omega),Option.bind_some,zap (by omega) (by omega)]
    exact Tot.ret ⟨hjl,by rw [zde hjl,List.map_append,List.append_assoc];rfl⟩
   ·simp only
    rw [if_neg (by omega)]
    have:j=ls.length:=by omega
    subst this
    exact Tot.ret (by show _=_;rw [List.take_length,zde hlt,List.flatMap_append];simp)
  ·subst hr
   rw [zap (by omega) (by omega)]
   exact Tot.ret ⟨hlt,by rw [zde hlt,List.map_append];rfl⟩
 ·simp only [ltI,zai]
  rw [if_neg (by omega)]
  have:i=ls.length:=by omega
  subst this
  exact Tot.ret (by show _=_;rw [List.take_length])
theorem impl_blur {s:TStructure} (hs:shortS s):zgf s=some (blurF s):=by
 have hn:=hs.n
 unfold small at hn
 unfold zgf blurF
 simp only [eqI,zai,zgs,zit,Option.bind_some,zgi _ s hs]
 by_cases h0:s.nodes.length=0
 ·rw [if_pos (by omega),if_pos h0]
 ·rw [if_neg (by omega),if_neg h0]
  cases hc:isStrB (varsF s) s with
  | false =>
   rw [cond_false,zoy s hs,if_neg (by simp)]
   rfl
  | true =>
   have hb:=okB_of hs hc h0
   have hg:preT zdl s=some (grpN (namesL s s.nodes.length),sortN (dstN (namesL s s.nodes.length))):=by
    unfold preT
    rw [zrj (fun i hi=>impl_name hb (by omega)) _ (Nat.le_refl _),Option.bind_some,if_pos]
    rw [Bool.and_eq_true]
    exact ⟨names_few hb,by rw [zqc];simpa using hb.z⟩
   rw [cond_true,if_pos rfl,hg,Option.bind_some]
   refine (zrp hs (F:=fun k=>posN k (namesL s s.nodes.length) 0) (fun k hk=>?_) (grp_ok hb)).eq
   show lookT k (grpN _)=_
   unfold grpN
   rw [zot,if_pos ((zft _).mem_iff.1 hk)]
end Go.Ev


namespace Go.Ev
open Wf (wf)
open Sm (sm lg)

theorem nil_app (a:ByteArray):(⟨#[]⟩:ByteArray) ++ a=a:=by
 apply ByteArray.ext
 rw [ByteArray.data_append]
 exact Array.empty_append
def valsK (l:List Int):Nat→ByteArray
 | 0=>⟨#[]⟩
 | k+1=>valsK l k ++ txtF (l.getD k 0)
theorem zfi (l:List Int):∀ k,(valsK l k).size≤k
 | 0=>Nat.le_refl _
 | k+1=>by
  rw [valsK,ByteArray.size_append]
  have:=zfi l k
  have:=zgt (l.getD k 0)
  omega
def valsF (l:List Int):ByteArray:=valsK l l.length
theorem ziv (l:List Int) (h:l.length≤1000):zbt l=some (valsF l):=by
 unfold zbt
 refine Tot.eq (Tot.bind (P:=(· = valsF l)) (Tot.loop (fun k q=>q=(valsK l k,(k:Int))) l.length rfl fun k q hI hk=>?_) fun r hr=>by subst hr;exact Tot.ret rfl)
 subst hI
 by_cases hlt:k < l.length
 ·simp only [ltI,zai,Int.ofNat_lt,hlt,if_true,zcv,List.getElem?_eq_getElem hlt,Option.bind_some,zla]
  have h1:=zfi l k
  have h2:=zgt l[k]
  unfold catS
  rw [if_pos (by omega),Option.bind_some,zap (by omega) (by omega)]
  exact Tot.ret ⟨trivial,by rw [valsK];simp [List.getD,hlt]⟩
 ·simp only [ltI,zai,Int.ofNat_lt,hlt,if_false]
  have:k=l.length:=by omega
  subst this
  exact Tot.ret rfl
theorem vals_eq (l:List Int):zbx l=zbt l:=by
 unfold zbx zbt
 simp only [impl_txt,zla]
theorem vals_one (a:Int):valsF [a]=txtF a:=by
 show ⟨#[]⟩ ++ txtF a=_
 exact nil_app _
theorem fmt_eq (n:Int):zbv n=zbk n:=by
 unfold zbv
 show ((digF n).bind fun y=>some y)=digF n
 cases digF n <;> rfl
theorem join_eq (l:List ByteArray) (s:ByteArray):zfn l s=zey l s:=by
 unfold zfn
 show ((joinF l s).bind fun y=>some y)=joinF l s
 cases joinF l s <;> rfl
theorem next_eq (s:TStructure) (h:small s.nodes.length) (i j:Int):zdb s i j=zcg s i j:=by
 rw [zoz s i j h,zib s i j h]

def dgB (j:Nat):ByteArray:=⟨#[UInt8.ofNat (48+j)]⟩
def arK (s:TStructure) (i:Int):Nat→List ByteArray
 | 0=>[]
 | j+1=>arK s i j ++ (if nextV s i j=2 then [dgB j] else if nextV s i j=1 then [dgB j ++ ⟨#[63]⟩] else [])
theorem arK_ok (s:TStructure) (i:Int):∀ j,(arK s i j).length≤j∧∀ x∈arK s i j,x.size≤2
 | 0=>⟨Nat.le_refl _,fun x hx=>by cases hx⟩
 | j+1=>by
  obtain ⟨h1,h2⟩:=arK_ok s i j
  have hd:(dgB j).size=1:=rfl
  have hq:(dgB j ++ ⟨#[63]⟩:ByteArray).size=2:=by rw [ByteArray.size_append];rfl
  rw [arK]
  refine ⟨?_,fun x hx=>?_⟩
  ·rw [List.length_append]
   split
   ·simp;omega
   ·split
    ·simp;omega
    ·simp;omega
  ·rcases List.mem_append.1 hx with hx | hx
   ·exact h2 x hx
   ·split at hx
    ·rw [List.mem_singleton] at hx;subst hx;omega
    ·split at hx
     ·rw [List.mem_singleton] at hx;subst hx;omega
     ·cases hx
def arF (s:TStructure) (i:Int):List ByteArray:=arK s i s.nodes.length
theorem spec_dig (j:Nat) (h:j < 10):zbk (j:Int)=some (dgB j):=by
 show digF _=_
 unfold digF
 rw [if_pos (by omega)]
 rfl
theorem zob (s:TStructure) (i:Int) (hn:s.nodes.length≤10):iter (ρ:=List ByteArray) (fun s_25:(List ByteArray) × Int =>
           cond (ltI s_25.2 (s.nodes.length:Int))
            ((zcg s i s_25.2).bind fun y_33 =>
             cond (eqI y_33 2)
              ((zbk s_25.2).bind fun y_37 =>
               (room (s_25.1.length + [y_37].length) 16).bind fun _ =>
                some (.inl (s_25.1 ++ [y_37],addI s_25.2 1)))
              (cond (eqI y_33 1)
               ((zbk s_25.2).bind fun y_43 =>
                (catS y_43 (⟨#[63]⟩:ByteArray)).bind fun z_46 =>
                 (room (s_25.1.length + [z_46].length) 16).bind fun _ =>
                  some (.inl (s_25.1 ++ [z_46],addI s_25.2 1)))
               (some (.inl (s_25.1,addI s_25.2 1)))))
            (some (.inr s_25.1))) ([],0)=some (arF s i):=by
 refine Tot.eq (Tot.loop (fun k q=>q=(arK s i k,(k:Int))) s.nodes.length rfl fun k q hI hk=>?_)
 subst hI
 obtain ⟨h1,h2⟩:=arK_ok s i k
 by_cases hlt:k < s.nodes.length
 ·simp only [ltI,zai,Int.ofNat_lt,hlt,if_true,zib s i _ (show small s.nodes.length by unfold small;omega),Option.bind_some,eqI,spec_dig k (by omega),List.length_singleton]
  have hcat:catS (dgB k) ⟨#[63]⟩=some (dgB k ++ ⟨#[63]⟩):=by
   unfold catS
   rw [if_pos (by show 1+1≤_;omega)]
  rw [hcat,Option.bind_some,zbq (by omega) (by omega),Option.bind_some,Option.bind_some,zap (by omega) (by omega)]
  by_cases e2:nextV s i k=2
  ·rw [if_pos e2]
   exact Tot.ret ⟨trivial,by rw [arK,if_pos e2];rfl⟩
  ·rw [if_neg e2]
   by_cases e1:nextV s i k=1
   ·rw [if_pos e1]
    exact Tot.ret ⟨trivial,by rw [arK,if_neg e2,if_pos e1];rfl⟩
   ·rw [if_neg e1]
    exact Tot.ret ⟨trivial,by rw [arK,if_neg e2,if_neg e1,List.append_nil];rfl⟩
 ·simp only [ltI,zai,Int.ofNat_lt,hlt,if_false]
  have:k=s.nodes.length:=by omega
  subst this
  exact Tot.ret rfl

def joinB (l:List ByteArray) (sep:ByteArray):ByteArray:=⟨(joinL l sep).toArray⟩
theorem joinL_len (m:Nat) (sep:ByteArray):∀ l:List ByteArray,(∀ x∈l,x.size≤m)→(joinL l sep).length≤l.length * (m+sep.size)
 | [],_=>by simp [joinL,Lib.join_nil]
 | x :: r,h=>by
  have hx:x.data.toList.length≤m:=by rw [Array.length_toList];exact h x (by simp)
  have hs:sep.data.toList.length=sep.size:=Array.length_toList
  have ht:(Lib.joinTail sep.data.toList (r.map (·.data.toList))).length≤r.length * (m+sep.size):=by
   have hr:∀ x∈r,x.size≤m:=fun y hy=>h y (by simp [hy])
   clear h hx
   induction r with
   | nil=>simp [Lib.joinTail]
   | cons y r ih =>
    have hy:y.data.toList.length≤m:=by rw [Array.length_toList];exact hr y (by simp)
    have:=ih fun z hz=>hr z (by simp [hz])
    have e:Lib.joinTail sep.data.toList ((y :: r).map (·.data.toList))=sep.data.toList ++ y.data.toList ++ Lib.joinTail sep.data.toList (r.map (·.data.toList)):=by simp [Lib.joinTail]
    rw [e,List.length_append,List.length_append,List.length_cons,Nat.succ_mul]
    omega
  unfold joinL
  rw [List.map_cons,Lib.join_cons,List.length_append,List.length_cons,Nat.succ_mul]
  omega
theorem joinB_ok {l:List ByteArray} {sep:ByteArray} {m:Nat} (h:∀ x∈l,x.size≤m) (hl:l.length≤10) (hm:m≤1000) (hs:sep.size≤1):zey l sep=some (joinB l sep)∧(joinB l sep).size≤10 * (m+1):=by
 have h1:=joinL_len m sep l h
 have h2:l.length * (m+sep.size)≤10 * (m+1):=Nat.mul_le_mul hl (by omega)
 have h3:(joinB l sep).size=(joinL l sep).length:=by
  show (joinL l sep).toArray.size=_
  simp
 refine ⟨?_,by omega⟩
 show joinF l sep=_
 unfold joinF
 rw [if_pos ⟨by omega,by omega⟩]
 rfl

def headF (x:TNode):ByteArray:=valsF x.vars ++ valsF x.reach ++ txtF x.shared
def starF (x:TNode):ByteArray:=if x.many=1 then headF x ++ ⟨#[42]⟩ else headF x
def wordF (s:TStructure) (i:Int):ByteArray :=
 if 0 < ((arF s i).length:Int) then starF (s.nodes.getD i.toNat zN) ++ (⟨#[62]⟩ ++ joinB (arF s i) ⟨#[44]⟩) else starF (s.nodes.getD i.toNat zN)
theorem zhv {a b:ByteArray} (h:a.size+b.size≤1000000):catS a b=some (a ++ b):=by
 unfold catS
 rw [if_pos (by omega)]
theorem zdy (b:UInt8):(⟨#[b]⟩:ByteArray).size=1:=rfl
theorem word_ok {s:TStructure} (hs:okB s) {i:Int} (hi:0≤i∧i < (s.nodes.length:Int)):(headF (s.nodes.getD i.toNat zN)).size≤9∧(starF (s.nodes.getD i.toNat zN)).size≤10∧zey (arF s i) ⟨#[44]⟩=some (joinB (arF s i) ⟨#[44]⟩)∧(joinB (arF s i) ⟨#[44]⟩).size≤30∧(wordF s i).size≤50:=by
 have hv:=hs.v
 obtain ⟨e1,e2⟩:=hs.e _ (zgl hi)
 obtain ⟨a1,a2⟩:=arK_ok s i s.nodes.length
 have hn:=hs.n
 obtain ⟨j1,j2⟩:=joinB_ok (sep:=⟨#[44]⟩) (m:=2) a2 (by omega) (by omega) (Nat.le_refl _)
 have h1:=zfi (s.nodes.getD i.toNat zN).vars (s.nodes.getD i.toNat zN).vars.length
 have h2:=zfi (s.nodes.getD i.toNat zN).reach (s.nodes.getD i.toNat zN).reach.length
 have h3:=zgt (s.nodes.getD i.toNat zN).shared
 have hh:(headF (s.nodes.getD i.toNat zN)).size≤9:=by
  unfold headF valsF
  rw [ByteArray.size_append,ByteArray.size_append]
  omega
 have hst:(starF (s.nodes.getD i.toNat zN)).size≤10:=by
  unfold starF
  split
  ·rw [ByteArray.size_append,zdy];omega
  ·omega
 refine ⟨hh,hst,j1,j2,?_⟩
 unfold wordF
 split
 ·rw [ByteArray.size_append,ByteArray.size_append,zdy]
  have:(joinB (arF s i) ⟨#[44]⟩).size≤30:=j2
  omega
 ·omega
theorem spec_word {s:TStructure} (hs:okB s) {i:Int} (hi:0≤i∧i < (s.nodes.length:Int)):zef s i=some (wordF s i):=by
 have hn:=hs.n
 have hv:=hs.v
 obtain ⟨e1,e2⟩:=hs.e _ (zgl hi)
 obtain ⟨w1,w2,w3,w4,w5⟩:=word_ok hs hi
 unfold zef
 rw [at_in' hi zN,Option.bind_some,ziv _ (by omega),Option.bind_some,ziv _ (by omega),Option.bind_some]
 have h1:(valsF (s.nodes.getD i.toNat zN).vars).size≤4:=Nat.le_trans (zfi _ _) (by omega)
 have h2:(valsF (s.nodes.getD i.toNat zN).reach).size≤4:=Nat.le_trans (zfi _ _) (by omega)
 have h3:=zgt (s.nodes.getD i.toNat zN).shared
 rw [zhv (by omega),Option.bind_some,zla,Option.bind_some,zhv (by rw [ByteArray.size_append];omega),Option.bind_some,zob s i hn]
 rw [show valsF (s.nodes.getD i.toNat zN).vars ++ valsF (s.nodes.getD i.toNat zN).reach ++ txtF (s.nodes.getD i.toNat zN).shared=headF (s.nodes.getD i.toNat zN) from rfl]
 simp only [eqI,ltI,zai,Option.bind_some,w3]
 unfold wordF starF
 by_cases hm:(s.nodes.getD i.toNat zN).many=1
 ·rw [if_pos hm,zhv (by rw [zdy];omega),Option.bind_some,if_pos hm]
  by_cases ha:0 < ((arF s i).length:Int)
  ·rw [if_pos ha,if_pos ha,zhv (by rw [ByteArray.size_append,zdy,zdy];omega),Option.bind_some,zhv (by rw [ByteArray.size_append,ByteArray.size_append,zdy,zdy];omega),Option.bind_some,ByteArray.append_assoc (b:=⟨#[62]⟩)]
  ·rw [if_neg ha,if_neg ha]
 ·rw [if_neg hm,if_neg hm]
  by_cases ha:0 < ((arF s i).length:Int)
  ·rw [if_pos ha,if_pos ha,zhv (by rw [zdy];omega),Option.bind_some,zhv (by rw [ByteArray.size_append,zdy];omega),Option.bind_some,ByteArray.append_assoc (b:=⟨#[62]⟩)]
  ·rw [if_neg ha,if_neg ha]
end Go.Ev


namespace Go.Ev
open Wf (wf)
open Sm (sm lg)

def wdK (s:TStructure):Nat→List ByteArray
 | 0=>[]
 | k+1=>wdK s k ++ [wordF s k]
theorem znn (s:TStructure):∀ k,(wdK s k).length=k
 | 0=>rfl
 | k+1=>by rw [wdK,List.length_append,znn s k];rfl
theorem wdK_size {s:TStructure} (hs:okB s):∀ k,k≤s.nodes.length→∀ x∈wdK s k,x.size≤50
 | 0,_,x,hx=>by cases hx
 | k+1,hk,x,hx=>by
  rw [wdK] at hx
  rcases List.mem_append.1 hx with hx | hx
  ·exact wdK_size hs k (by omega) x hx
  ·rw [List.mem_singleton] at hx;subst hx
   exact (word_ok hs (i:=(k:Int)) (by omega)).2.2.2.2
def stF (s:TStructure):ByteArray:=joinB (wdK s s.nodes.length) ⟨#[32]⟩
theorem st_join {s:TStructure} (hs:okB s):zey (wdK s s.nodes.length) ⟨#[32]⟩=some (stF s) :=
 (joinB_ok (m:=50) (wdK_size hs _ (Nat.le_refl _)) (by rw [znn];exact hs.n) (by omega) (Nat.le_refl _)).1
theorem spec_text {s:TStructure} {z:List ByteArray} (hs:okB s) (hz:zbo z=some true) (hi:isStrB (z.length:Int) s=true):zav z s=some (stF s):=by
 have hn:=hs.n
 have h1:=hs.z
 unfold zav
 rw [hz,Option.bind_some,zgg _ s hs.sh,hi]
 simp only [cond_true,Option.bind_some]
 refine Tot.eq (Tot.bind (P:=(· = wdK s s.nodes.length)) (Tot.loop (fun k q=>q=(wdK s k,(k:Int))) s.nodes.length rfl fun k q hI hk=>?_) fun r hr=>?_)
 ·subst hI
  by_cases hlt:k < s.nodes.length
  ·simp only [ltI,zai]
   rw [if_pos (by omega),spec_word hs (by omega),Option.bind_some,znn,List.length_singleton,zbq (by omega) (by omega),Option.bind_some,zap (by omega) (by omega)]
   exact Tot.ret ⟨hlt,rfl⟩
  ·simp only [ltI,zai]
   rw [if_neg (by omega)]
   have:k=s.nodes.length:=by omega
   subst this
   exact Tot.ret rfl
 ·subst hr
  simp only [eqI,zai]
  rw [znn,if_neg (by omega),st_join hs]
  exact Tot.ret rfl
theorem impl_text {s:TStructure} {z:List ByteArray} (hs:okB s) (hz:zcf z=some true) (hi:isStrB (z.length:Int) s=true):zan z s=some (stF s):=by
 have hn:=hs.n
 have h1:=hs.z
 have hv:=hs.v
 have hsm:small s.nodes.length:=by unfold small;omega
 unfold zan
 rw [hz,Option.bind_some,zgi _ s hs.sh,hi]
 simp only [cond_true,Option.bind_some,vals_eq,fmt_eq,join_eq,next_eq s hsm,eqI,zai]
 rw [if_neg (by omega)]
 refine Tot.eq (Tot.bind (P:=(· = wdK s s.nodes.length)) (Tot.loop (fun k q=>q=(wdK s k,(k:Int))) s.nodes.length rfl fun k q hI hk=>?_) fun r hr=>?_)
 ·subst hI
  by_cases hlt:k < s.nodes.length
  ·have hik:0≤(k:Int)∧(k:Int) < (s.nodes.length:Int):=by omega
   obtain ⟨e1,e2⟩:=hs.e _ (zgl hik)
   obtain ⟨w1,w2,w3,w4,w5⟩:=word_ok hs hik
   have a1:(valsF (s.nodes.getD (k:Int).toNat zN).vars).size≤4:=Nat.le_trans (zfi _ _) (by omega)
   have a2:(valsF (s.nodes.getD (k:Int).toNat zN).reach).size≤4:=Nat.le_trans (zfi _ _) (by omega)
   have a3:=zgt (s.nodes.getD (k:Int).toNat zN).shared
   have har:=zob s (k:Int) hn
   simp only [eqI,zai] at har
   simp only [ltI,zai] at har ⊢
   rw [if_pos hik.2,at_in' hik zN,Option.bind_some,ziv _ (by omega),Option.bind_some,ziv _ (by omega),Option.bind_some,zhv (by omega),Option.bind_some,ziv _ (by simp),Option.bind_some,vals_one,zhv (by rw [ByteArray.size_append];omega),Option.bind_some,
    show valsF (s.nodes.getD (k:Int).toNat zN).vars ++ valsF (s.nodes.getD (k:Int).toNat zN).reach ++ txtF (s.nodes.getD (k:Int).toNat zN).shared=headF (s.nodes.getD (k:Int).toNat zN) from rfl,har]
   simp only [Option.bind_some,w3,znn,List.length_singleton]
   rw [zhv (b:=joinB (arF s k) ⟨#[44]⟩) (by rw [zdy];omega),zbq (by omega) (by omega),zap (by omega) (by omega)]
   simp only [Option.bind_some]
   have goal:∀ x,x=wordF s k→Tot (some (Sum.inl (wdK s k ++ [x],(k:Int)+1)):Option ((List ByteArray × Int) ⊕ List ByteArray)) (Sum.elim (fun s'=>k < s.nodes.length∧s'=(wdK s (k+1),((k+1:Nat):Int))) fun x=>x=wdK s s.nodes.length):=fun x hx=>by
    subst hx
    exact Tot.ret ⟨hlt,rfl⟩
   by_cases hm:(s.nodes.getD (k:Int).toNat zN).many=1
   ·rw [if_pos hm,zhv (by rw [zdy];omega),Option.bind_some]
    by_cases ha:0 < ((arF s k).length:Int)
    ·rw [if_pos ha,zhv (by rw [ByteArray.size_append,ByteArray.size_append,zdy,zdy];omega),Option.bind_some]
     exact goal _ (by unfold wordF starF;rw [if_pos ha,if_pos hm])
    ·rw [if_neg ha]
     exact goal _ (by unfold wordF starF;rw [if_neg ha,if_pos hm])
   ·rw [if_neg hm]
    by_cases ha:0 < ((arF s k).length:Int)
    ·rw [if_pos ha,zhv (by rw [ByteArray.size_append,zdy];omega),Option.bind_some]
     exact goal _ (by unfold wordF starF;rw [if_pos ha,if_neg hm])
    ·rw [if_neg ha]
     exact goal _ (by unfold wordF starF;rw [if_neg ha,if_neg hm])
  ·simp only [ltI,zai]
   rw [if_neg (by omega)]
   have:k=s.nodes.length:=by omega
   subst this
   exact Tot.ret rfl
 ·subst hr
  rw [st_join hs]
  exact Tot.ret rfl

theorem spec_name1 (c:UInt8) (h:97≤c.toNat∧c.toNat≤122):zdp ⟨#[c]⟩=some true:=by
 unfold zdp
 refine Tot.eq (Tot.bind (P:=fun r=>r=.inr ()) (Tot.loop (fun k q=>q=(k:Int)) 1 rfl fun k q hI hk=>?_) fun r hr=>?_)
 ·subst hI
  simp only [ltI,zai,zdy]
  rcases Nat.eq_zero_or_pos k with rfl | hp
  ·have:chr? (⟨#[c]⟩:ByteArray) ((0:Nat):Int)=some (c.toNat:Int):=rfl
   rw [if_pos (by omega),this,Option.bind_some,if_neg (by omega),Option.bind_some,if_neg (by omega)]
   exact Tot.ret ⟨by omega,rfl⟩
  ·rw [if_neg (by omega)]
   exact Tot.ret rfl
 ·subst hr
  exact Tot.ret rfl
theorem isName_eq (s:ByteArray):zfh s=zdp s:=by
 unfold zfh zdp
 simp only [zeu,zdz]
theorem spec_index {l:List ByteArray} {s:ByteArray} {k:Nat} (hl:l.length≤100) (hk:k < l.length) (h1:eqS l[k] s=true) (h2:∀ j (h:j < k),eqS (l[j]'(by omega)) s=false):zcb l s=some (k:Int):=by
 unfold zcb
 refine Tot.eq (Tot.bind (P:=fun r=>r=.inl (k:Int)) (Tot.loop (fun j q=>q=(j:Int)∧j≤k) k ⟨rfl,Nat.zero_le _⟩ fun j q hI hj=>?_) fun r hr=>?_)
 ·obtain ⟨rfl,hjk⟩:=hI
  simp only [ltI,zai]
  rw [if_pos (by omega),zcv,List.getElem?_eq_getElem (by omega),Option.bind_some]
  rcases Nat.lt_or_ge j k with h | h
  ·rw [h2 j h,zap (by omega) (by omega)]
   exact Tot.ret ⟨h,rfl,by omega⟩
  ·obtain rfl:j=k:=by omega
   rw [h1]
   exact Tot.ret rfl
 ·subst hr
  exact Tot.ret rfl
theorem eqS_comm (a b:ByteArray):eqS a b=eqS b a:=by
 unfold eqS
 exact Bool.eq_iff_iff.2 ⟨fun h=>by rw [beq_iff_eq] at *; exact h.symm,fun h=>by rw [beq_iff_eq] at *; exact h.symm⟩
theorem index_eq (l:List ByteArray) (s:ByteArray):zej l s=zcb l s:=by
 have h:zbl l s=zcb l s:=by
  unfold zbl zcb
  simp only [eqS_comm s]
 unfold zej
 rw [h]
 cases zcb l s <;> rfl
def L4:List ByteArray:=[⟨#[97]⟩,⟨#[98]⟩,⟨#[99]⟩,⟨#[100]⟩]
theorem areVars_of {l:List ByteArray} (hl:1≤l.length∧l.length≤4) (h1:∀ k (h:k < l.length),zdp l[k]=some true∧zcb l l[k]=some (k:Int)):zbo l=some true:=by
 unfold zbo
 refine Tot.eq (Tot.bind (P:=fun r=>r=.inr ()) (Tot.loop (fun k q=>q=(k:Int)) l.length rfl fun k q hI hk=>?_) fun r hr=>?_)
 ·subst hI
  simp only [ltI,zai]
  by_cases hlt:k < l.length
  ·obtain ⟨a1,a2⟩:=h1 k hlt
   rw [if_pos (by omega),zcv,List.getElem?_eq_getElem hlt,Option.bind_some,a1,Option.bind_some,cond_true,Option.bind_some,a2,Option.bind_some]
   simp only [neI,zek]
   rw [if_pos trivial,zap (by omega) (by omega)]
   exact Tot.ret ⟨hlt,rfl⟩
  ·rw [if_neg (by omega)]
   exact Tot.ret rfl
 ·subst hr
  rw [zdz]
  exact Tot.ret (by simp;omega)
theorem zql (l:List ByteArray):zcf l=zbo l:=by
 unfold zcf zbo
 simp only [isName_eq,index_eq,zeu,zdz]
 congr 2
 funext q
 cases h:at? l q with
 | none=>rfl
 | some x=>rfl
theorem one_eq (a b:UInt8):eqS ⟨#[a]⟩ ⟨#[b]⟩=(a == b):=by
 have:∀ c:UInt8,(⟨#[c]⟩:ByteArray).toList=[c]:=fun c=>by rw [zph]
 unfold eqS
 rw [this,this]
 simp
theorem spec_L4 (n:Nat) (hn:1≤n∧n≤4):zbo (L4.take n)=some true:=by
 have hlen:(L4.take n).length=n:=by rw [List.length_take];show min n 4=n;omega
 refine areVars_of (by omega) fun k hk=>?_
 rw [hlen] at hk
 have hg:∀ j (h:j < (L4.take n).length),(L4.take n)[j]=(⟨#[UInt8.ofNat (97+j)]⟩:ByteArray):=fun j h=>by
  have h4:j < 4:=by rw [hlen] at h;omega
  rw [List.getElem_take]
  match j,h4 with
  | 0,_=>rfl
  | 1,_=>rfl
  | 2,_=>rfl
  | 3,_=>rfl
 have hk4:k < 4:=by omega
 have hb:(UInt8.ofNat (97+k)).toNat=97+k:=by
  rw [UInt8.toNat_ofNat']
  omega
 refine ⟨by rw [hg];exact spec_name1 _ (by omega),spec_index (by omega) (by omega) ?_ fun j hj=>?_⟩
 ·unfold eqS;exact beq_self_eq_true _
 ·rw [hg,hg,one_eq,beq_eq_false_iff_ne]
  intro he
  have:=congrArg UInt8.toNat he
  rw [hb,UInt8.toNat_ofNat'] at this
  omega
theorem impl_L4 (n:Nat) (hn:1≤n∧n≤4):zcf (L4.take n)=some true:=by rw [zql];exact spec_L4 n hn
def keyF (s:TStructure):ByteArray:=if s.nodes.length=0 then ⟨#[45]⟩ else if isStrB (varsF s) s=true then stF s else ⟨#[]⟩

theorem slc_L4 (n:Int) (h:0≤n∧n≤4):slc L4 0 n=some (L4.take n.toNat):=by
 unfold slc
 have:(L4.length:Int)=4:=rfl
 rw [if_pos (by omega)]
 simp
theorem vars_node {s:TStructure} (h:¬ s.nodes.length=0):∃ x∈s.nodes,varsF s=(x.vars.length:Int):=by
 unfold varsF
 cases hn:s.nodes with
 | nil=>rw [hn] at h;exact absurd rfl h
 | cons x r=>exact ⟨x,by simp,rfl⟩
theorem zkm {v:Int} {s:TStructure} (h:isStrB v s=true):1≤v∧v≤4:=by
 unfold isStrB at h
 simp only [Bool.and_eq_true,decide_eq_true_eq] at h
 exact h.1
theorem isStr_vars {v:Int} {s:TStructure} (h:isStrB v s=true) (h0:¬ s.nodes.length=0):varsF s=v:=by
 unfold isStrB at h
 simp only [Bool.and_eq_true,decide_eq_true_eq,List.all_eq_true] at h
 obtain ⟨x,hx,e⟩:=vars_node h0
 have:=h.2.2.2.2 x hx
 unfold nodeOkB at this
 simp only [Bool.and_eq_true,decide_eq_true_eq] at this
 omega
theorem zoa {s:TStructure} {z:List ByteArray} (hs:shortS s) (hz:zbo z=some true) (hi:isStrB (z.length:Int) s=false):zav z s=some ⟨#[]⟩:=by
 unfold zav
 rw [hz,Option.bind_some,zgg _ s hs,hi]
 rfl
theorem zjc {s:TStructure} {z:List ByteArray} (hs:shortS s) (hz:zcf z=some true) (hi:isStrB (z.length:Int) s=false):zan z s=some ⟨#[]⟩:=by
 unfold zan
 rw [hz,Option.bind_some,zgi _ s hs,hi]
 rfl
theorem impl_noVars (s:TStructure):zan [] s=some ⟨#[]⟩:=by
 have:zcf []=some false:=by
  rw [zql]
  unfold zbo
  refine Tot.eq (Tot.bind (P:=fun r=>r=.inr ()) (Tot.loop (fun k q=>q=(k:Int)) 0 rfl fun k q hI hk=>?_) fun r hr=>?_)
  ·subst hI
   simp only [ltI,zai]
   rw [if_neg (by simp)]
   exact Tot.ret rfl
  ·subst hr
   rw [zdz]
   exact Tot.ret rfl
 unfold zan
 rw [this]
 rfl
theorem zno (s:TStructure):0≤varsF s:=by
 unfold varsF
 split
 ·omega
 ·omega
theorem L4_len (n:Int) (h:0≤n∧n≤4):((L4.take n.toNat).length:Int)=n:=by
 rw [List.length_take]
 have:L4.length=4:=rfl
 omega
theorem zqv {s:TStructure} (hs:shortS s):zdo s=some (keyF s):=by
 have hv:=zno s
 unfold zdo keyF
 simp only [eqI,zai]
 by_cases h0:s.nodes.length=0
 ·rw [if_pos (by omega),if_pos h0]
 ·rw [if_neg (by omega),if_neg h0,zit,Option.bind_some,zdz,Option.bind_some,zai]
  by_cases h1:1≤varsF s∧varsF s≤4
  ·rw [if_pos h1]
   change ((slc L4 0 (varsF s)).bind fun z_9=>(zav z_9 s).bind fun y_16=>some y_16)=_
   have hA:=spec_L4 (varsF s).toNat (by omega)
   have hl:=L4_len (varsF s) (by omega)
   rw [slc_L4 _ (by omega),Option.bind_some]
   cases hi:isStrB (varsF s) s with
   | true =>
    rw [spec_text (okB_of hs hi h0) hA (by rw [hl];exact hi)]
    rfl
   | false =>
    rw [zoa hs hA (by rw [hl];exact hi)]
    rfl
  ·rw [if_neg h1]
   cases hi:isStrB (varsF s) s with
   | true=>exact absurd (zkm hi) h1
   | false=>rfl
theorem zro {s:TStructure} (hs:shortS s):zea s=some (keyF s):=by
 have hv:=zno s
 unfold zea keyF
 simp only [eqI,zai]
 by_cases h0:s.nodes.length=0
 ·rw [if_pos (by omega),if_pos h0]
 ·rw [if_neg (by omega),if_neg h0,zgs,zit,Option.bind_some]
  change ((slc L4 0 (minI (varsF s) 4)).bind fun z_9=>(zan z_9 s).bind fun y_16=>some y_16)=_
  by_cases h1:varsF s≤4
  ·have hm:minI (varsF s) 4=varsF s:=by unfold minI;rw [if_neg (by omega)]
   rw [hm,slc_L4 _ (by omega),Option.bind_some]
   by_cases h2:varsF s=0
   ·rw [h2]
    show ((zan [] s).bind _)=_
    rw [impl_noVars]
    cases hi:isStrB 0 s with
    | true=>have:=zkm hi;omega
    | false=>rfl
   ·have hA:=impl_L4 (varsF s).toNat (by omega)
    have hl:=L4_len (varsF s) (by omega)
    cases hi:isStrB (varsF s) s with
    | true =>
     rw [impl_text (okB_of hs hi h0) hA (by rw [hl];exact hi)]
     rfl
    | false =>
     rw [zjc hs hA (by rw [hl];exact hi)]
     rfl
  ·have hm:minI (varsF s) 4=4:=by unfold minI;rw [if_pos (by omega)]
   have hA:zcf (L4.take (4:Int).toNat)=some true:=impl_L4 4 (by omega)
   rw [hm,slc_L4 4 (by omega),Option.bind_some]
   have h4:isStrB ((L4.take (4:Int).toNat).length:Int) s=false:=by
    cases hi:isStrB ((L4.take (4:Int).toNat).length:Int) s with
    | false=>rfl
    | true =>
     have:=isStr_vars hi h0
     have e:((L4.take (4:Int).toNat).length:Int)=4:=rfl
     omega
   rw [zjc hs hA h4]
   cases hi:isStrB (varsF s) s with
   | true=>have:=zkm hi;omega
   | false=>rfl
end Go.Ev


namespace Go.Ev
open Wf (wf)
open Sm (sm lg)

theorem sm_blur {s:TStructure} (h:sm s):sm (blurF s):=by
 unfold blurF
 split
 ·exact ⟨⟨by simp,by simp⟩,⟨by simp,by simp⟩⟩
 ·rename_i h0
  split
  ·rename_i hc
   have hG:=grp_ok (okB_of (zem h) hc h0)
   have hl:=hG.l
   unfold blurG
   refine ⟨⟨by simp only [List.length_map];omega,fun y hy=>?_⟩,⟨?_,fun _ _=>trivial⟩⟩
   ·obtain ⟨g,hg,rfl⟩:=List.mem_map.1 hy
    obtain ⟨g0,_,g2⟩:=hG.e g hg
    have hz:=g2 _ (zlt (List.length_pos_iff.2 g0) 0)
    have:=h.1.2 _ (zgl hz)
    exact ⟨this.1,this.2⟩
   ·simp only
    rw [zkr _ _ (gsF s).length (fun x _=>by simp)]
    have:(gsF s).length * (gsF s).length≤10 * 10:=Nat.mul_le_mul (by omega) (by omega)
    omega
  ·exact h
end Go.Ev


namespace Go.Ev
open Wf (wf)
open Sm (sm lg)

def gtK (k:ByteArray) (y:TStructure):Bool:=gtT (keyF y) k
def insK (x:TStructure) (k:ByteArray):List TStructure→List TStructure
 | []=>[x]
 | y :: r=>if gtK k y=true then x :: y :: r else y :: insK x k r
def hasK (k:ByteArray) (l:List TStructure):Bool:=l.any fun y=>eqS (keyF y) k
def addF (set:List TStructure) (s:TStructure):List TStructure:=if hasK (keyF (blurF s)) set=true then set else insK (blurF s) (keyF (blurF s)) set
structure okSt (set:List TStructure):Prop where
 l:set.length≤3000000
 e:∀ x∈set,sm x
theorem insK_any (x:TStructure) (k:ByteArray):∀ (l r:List TStructure),l.any (gtK k)=true→insK x k (l ++ r)=insK x k l ++ r
 | [],_,h=>by cases h
 | y :: l,r,h=>by
  rw [List.cons_append,insK,insK]
  split
  ·rfl
  ·rename_i hn
   rw [List.any_cons,Bool.or_eq_true] at h
   rw [insK_any x k l r (h.resolve_left hn)]
   rfl
theorem zox (x:TStructure) (k:ByteArray):∀ (l r:List TStructure),l.any (gtK k)=false→insK x k (l ++ r)=l ++ insK x k r
 | [],_,_=>rfl
 | y :: l,r,h=>by
  rw [List.any_cons,Bool.or_eq_false_iff] at h
  rw [List.cons_append,insK,if_neg (by rw [h.1];simp),zox x k l r h.2]
  rfl
theorem zrn (x:TStructure) (k:ByteArray):∀ l:List TStructure,(insK x k l).length=l.length+1
 | []=>rfl
 | y :: r=>by
  rw [insK]
  split
  ·rfl
  ·rw [List.length_cons,zrn x k r];rfl
theorem insK_mem {x y:TStructure} {k:ByteArray}:∀ {l:List TStructure},y∈insK x k l→y=x∨y∈l
 | [],h=>by
  rw [insK,List.mem_singleton] at h
  exact .inl h
 | z :: r,h=>by
  rw [insK] at h
  split at h
  ·rcases List.mem_cons.1 h with h | h
   ·exact .inl h
   ·exact .inr h
  ·rcases List.mem_cons.1 h with h | h
   ·exact .inr (by simp [h])
   ·rcases insK_mem h with h | h
    ·exact .inl h
    ·exact .inr (by simp [h])
theorem insK_at (x:TStructure) (k:ByteArray) (l:List TStructure):insK x k l=match l.findIdx? (gtK k) with | some i=>l.take i ++ x :: l.drop i | none=>l ++ [x]:=by
 induction l with
 | nil=>rfl
 | cons y r ih =>
  rw [insK,List.findIdx?_cons]
  by_cases h:gtK k y=true
  ·rw [if_pos h,if_pos h];rfl
  ·rw [if_neg h,if_neg h,ih]
   cases r.findIdx? (gtK k) with
   | none=>rfl
   | some i=>rfl
theorem addF_ok {set:List TStructure} {s:TStructure} (h:okSt set) (hs:sm s):(addF set s).length≤set.length+1∧∀ x∈addF set s,sm x:=by
 unfold addF
 split
 ·exact ⟨by omega,h.e⟩
 ·refine ⟨by rw [zrn];omega,fun x hx=>?_⟩
  rcases insK_mem hx with rfl | hx
  ·exact sm_blur hs
  ·exact h.e x hx
theorem own_set {set:List TStructure} (h:okSt set):zei set=some set:=by
 have hl:=h.l
 unfold zei
 refine Tot.eq (Tot.bind (P:=(· = set)) (Tot.loop (fun k q=>q=(set.take k,(k:Int))) set.length rfl fun k q hI hk=>?_) fun r hr=>by subst hr;exact Tot.ret rfl)
 subst hI
 simp only [ltI,zai]
 by_cases hlt:k < set.length
 ·rw [if_pos (by omega),zcv,List.getElem?_eq_getElem hlt,Option.bind_some,zoy _ (zem (h.e _ (List.getElem_mem hlt))),Option.bind_some,List.length_take,List.length_singleton,zbq (by omega) (by omega),Option.bind_some,zap (by omega) (by omega)]
  exact Tot.ret ⟨hlt,by rw [List.take_succ_eq_append_getElem hlt];rfl⟩
 ·rw [if_neg (by omega)]
  exact Tot.ret (show set.take k=set from List.take_of_length_le (by omega))
theorem impl_add {set:List TStructure} {s:TStructure} (h:okSt set) (hs:sm s):zby set s=some (addF set s):=by
 have hb:=sm_blur hs
 have hl:=h.l
 have hsm:small set.length:=by unfold small;omega
 unfold zby addF
 rw [own_set h,Option.bind_some,impl_blur (zem hs),Option.bind_some,zro (zem hb),Option.bind_some]
 have h1:zas set (fun x0=>zds x0 (keyF (blurF s)))=some (hasK (keyF (blurF s)) set) :=
  zne set _ (fun y=>eqS (keyF y) (keyF (blurF s))) (fun x hx=>by unfold zds;rw [zro (zem (h.e x hx))];rfl) hsm
 rw [h1,Option.bind_some]
 cases hasK (keyF (blurF s)) set with
 | true=>rfl
 | false =>
  simp only [cond_false,Bool.false_eq_true,if_false]
  have h2:zar set (fun x0=>zdr x0 (keyF (blurF s)))=some (match set.findIdx? (gtK (keyF (blurF s))) with | some i=>(i:Int) | none=>-1):=by
   unfold zar
   rw [indexF set _ (gtK (keyF (blurF s))) (fun x hx=>by unfold zdr;rw [zro (zem (h.e x hx))];rfl) hsm]
   cases set.findIdx? (gtK (keyF (blurF s))) <;> rfl
  rw [h2,Option.bind_some,insK_at]
  cases hf:set.findIdx? (gtK (keyF (blurF s))) with
  | none =>
   have hi:zaw set (set.length:Int) [blurF s]=some (set ++ [blurF s]):=by
    show insF _ _ _=_
    unfold insF
    simp only
    rw [if_pos (by omega),Int.toNat_natCast,List.take_length,List.drop_length]
   rw [hi]
   rfl
  | some i =>
   have hlt:i < set.length:=by
    have:=List.of_findIdx?_eq_some hf
    rcases Nat.lt_or_ge i set.length with h | h
    ·exact h
    ·rw [List.getElem?_eq_none h] at this;cases this
   have hi:zaw set (i:Int) [blurF s]=some (set.take i ++ blurF s :: set.drop i):=by
    show insF _ _ _=_
    unfold insF
    simp only
    rw [if_pos (by omega),Int.toNat_natCast]
   show (cond (ltI (i:Int) 0) _ _)=_
   simp only [ltI,zai]
   rw [if_neg (by omega),hi]
   rfl

def stepK (x:TStructure) (k:ByteArray) (d:Bool) (l:List TStructure):List TStructure × Bool :=
 if d=true then (l,true) else if l.any (gtK k)=true then (insK x k l,true) else (l,false)
theorem stepK_len (x:TStructure) (k:ByteArray) (d:Bool) (l:List TStructure):(stepK x k d l).1.length≤l.length+1:=by
 unfold stepK
 split
 ·exact Nat.le_succ _
 ·split
  ·exact Nat.le_of_eq (zrn x k l)
  ·exact Nat.le_succ _
theorem stepK_snoc (x:TStructure) (k:ByteArray) (d:Bool) (l:List TStructure) (y:TStructure) :
 stepK x k d (l ++ [y])=if (stepK x k d l).2=true then ((stepK x k d l).1 ++ [y],true) else if gtK k y=true then ((stepK x k d l).1 ++ [x] ++ [y],true) else ((stepK x k d l).1 ++ [y],false):=by
 unfold stepK
 cases d with
 | true=>rfl
 | false =>
  simp only [Bool.false_eq_true,if_false,List.any_append,List.any_cons,List.any_nil,Bool.or_false]
  by_cases h:l.any (gtK k)=true
  ·rw [if_pos (by rw [h];rfl),if_pos h]
   simp only [if_true]
   rw [insK_any x k l [y] h]
  ·have h':l.any (gtK k)=false:=by simpa using h
   rw [if_neg h]
   simp only [Bool.false_eq_true,if_false,h',Bool.false_or]
   by_cases hy:gtK k y=true
   ·rw [if_pos hy,if_pos hy,zox x k l [y] h',insK,if_pos hy]
    simp
   ·rw [if_neg hy,if_neg hy]
theorem spec_has {set:List TStructure} (k:ByteArray) (h:okSt set):(iter (ρ:=Bool) (fun s_7:Bool × Int =>
     cond (ltI s_7.2 (set.length:Int))
      (cond s_7.1
       (some (.inl (true,addI s_7.2 1)))
       ((at? set s_7.2).bind fun e_16 =>
        (zdo e_16).bind fun y_21 =>
         some (.inl (eqS y_21 k,addI s_7.2 1))))
      (some (.inr s_7.1))) (false,0))=some (hasK k set):=by
 have hl:=h.l
 refine Tot.eq (Tot.loop (fun i q=>q=(hasK k (set.take i),(i:Int))) set.length rfl fun i q hI hi=>?_)
 subst hI
 simp only [ltI,zai]
 by_cases hlt:i < set.length
 ·have e:hasK k (set.take (i+1))=(hasK k (set.take i) || eqS (keyF set[i]) k):=by
   unfold hasK
   rw [List.take_succ_eq_append_getElem hlt,List.any_append]
   simp
  rw [if_pos (by omega),zcv,List.getElem?_eq_getElem hlt,Option.bind_some,zqv (zem (h.e _ (List.getElem_mem hlt))),Option.bind_some,zap (by omega) (by omega)]
  cases hh:hasK k (set.take i) with
  | true=>exact Tot.ret ⟨hlt,by rw [e,hh];rfl⟩
  | false=>exact Tot.ret ⟨hlt,by rw [e,hh];rfl⟩
 ·rw [if_neg (by omega)]
  exact Tot.ret (show hasK k (set.take i)=hasK k set by rw [List.take_of_length_le (by omega)])
theorem spec_add {set:List TStructure} {s:TStructure} (h:okSt set) (hs:sm s):zcm set s=some (addF set s):=by
 have hb:=sm_blur hs
 have hl:=h.l
 unfold zcm addF
 rw [spec_blur (zem hs),Option.bind_some,zqv (zem hb),Option.bind_some,spec_has _ h,Option.bind_some]
 generalize blurF s=x at hb
 generalize hk:keyF x=k
 generalize hd:hasK k set=d
 have hc:=zlb x (zem hb)
 refine Tot.eq (Tot.bind (P:=(· = stepK x k d set)) (Tot.loop (fun i q=>q=((stepK x k d (set.take i)).1,(i:Int),(stepK x k d (set.take i)).2)) set.length (by cases d <;> rfl) fun i q hI hi=>?_) fun r hr=>?_)
 ·subst hI
  simp only [ltI,zai]
  by_cases hlt:i < set.length
  ·have hy:=zem (h.e _ (List.getElem_mem hlt))
   have hlen:=stepK_len x k d (set.take i)
   rw [List.length_take] at hlen
   have hsn:=stepK_snoc x k d (set.take i) set[i]
   rw [← List.take_succ_eq_append_getElem hlt] at hsn
   rw [if_pos (by omega),zcv,List.getElem?_eq_getElem hlt]
   simp only [Option.bind_some,zlb _ hy,zqv hy,hc,List.length_singleton,List.length_append]
   rw [zbq (by omega) (by omega),zbq (n:=_+1+1) (by omega) (by omega),zap (by omega) (by omega)]
   simp only [Option.bind_some]
   cases hd2:(stepK x k d (set.take i)).2 with
   | true =>
    rw [hd2] at hsn
    exact Tot.ret ⟨hlt,by rw [hsn];rfl⟩
   | false =>
    rw [hd2] at hsn
    simp only [Bool.false_eq_true,if_false] at hsn
    have hg:gtT (keyF set[i]) k=gtK k set[i]:=rfl
    rw [hg]
    cases hg2:gtK k set[i] with
    | true =>
     rw [hg2] at hsn
     exact Tot.ret ⟨hlt,by rw [hsn];rfl⟩
    | false =>
     rw [hg2] at hsn
     exact Tot.ret ⟨hlt,by rw [hsn];rfl⟩
  ·rw [if_neg (by omega)]
   exact Tot.ret (show ((stepK x k d (set.take i)).1,(stepK x k d (set.take i)).2)=stepK x k d set by rw [List.take_of_length_le (by omega)])
 ·subst hr
  have hlen:=stepK_len x k d set
  unfold stepK at *
  cases d with
  | true=>exact Tot.ret rfl
  | false =>
   simp only [Bool.false_eq_true,if_false] at hlen ⊢
   by_cases hg:set.any (gtK k)=true
   ·rw [if_pos hg]
    exact Tot.ret rfl
   ·have hg':set.any (gtK k)=false:=by simpa using hg
    rw [if_neg hg]
    simp only [cond_false,hc,Option.bind_some,List.length_singleton]
    rw [zbq (by omega) (by omega),Option.bind_some]
    refine Tot.ret ?_
    have:=zox x k set [] hg'
    rw [List.append_nil] at this
    rw [this]
    rfl
end Go.Ev


namespace Go.Ev
open Wf (wf)
open Sm (sm lg)

theorem cnt_set {l:List TStructure} (h:∀ x∈l,sm x):zdc l≤l.length * 2200001048576:=totC_le zbn 2200001048576 l fun x hx=>cnt_str (h x hx)
theorem lg_set {l:List TStructure} (hl:l.length≤3000000) (h:∀ x∈l,sm x):lg l:=⟨by omega,fun x hx=>sm_lg (h x hx)⟩
structure MkSt (l:List TStructure):Prop where
 lg:lg l
 b:(1:Int)+zdc l≤maxMark
theorem mkSt {l:List TStructure} (hl:l.length≤2000000) (h:∀ x∈l,sm x):MkSt l:=by
 have h1:=cnt_set h
 have h2:l.length * 2200001048576≤2000000 * 2200001048576:=Nat.mul_le_mul_right _ hl
 exact ⟨lg_set (by omega) h,by unfold maxMark;omega⟩
def addK (g:Nat→TStructure) (acc:List TStructure):Nat→List TStructure
 | 0=>acc
 | k+1=>addF (addK g acc k) (g k)
theorem addK_ok {g:Nat→TStructure} {acc:List TStructure} {n:Nat} (hn:acc.length+n≤2000000) (ha:∀ x∈acc,sm x) (hg:∀ i,i < n→sm (g i)):∀ k,k≤n→(addK g acc k).length≤acc.length+k∧∀ x∈addK g acc k,sm x
 | 0,_=>⟨Nat.le_refl _,ha⟩
 | k+1,hk=>by
  obtain ⟨h1,h2⟩:=addK_ok hn ha hg k (by omega)
  obtain ⟨h3,h4⟩:=addF_ok (set:=addK g acc k) (s:=g k) ⟨by omega,h2⟩ (hg k (by omega))
  exact ⟨by rw [addK];omega,by rw [addK];exact h4⟩
end Go.Ev


namespace Go.Ev
open Wf (wf)
open Sm (sm lg)

def SzLe (r:Option Int) (left c:Int):Prop:=∃ n,r=some n∧n≤left∧(0≤n→n+c≤left)
theorem SzLe.two {r:Option Int} {left c:Int} {k:Int→Option Int} (h:SzLe r left c) (hl:0≤left) (hc:0≤c) (hk:∀ n,0≤n∧n≤left→SzLe (k n) n 0):SzLe (r.bind fun y=>cond (ltI y 0) (some (-1)) (k y)) left 0:=by
 obtain ⟨n,rfl,h1,h2⟩:=h
 rw [Option.bind_some,zcu]
 by_cases hn:n < 0
 ·rw [if_pos hn];exact ⟨-1,rfl,by omega,by omega⟩
 ·rw [if_neg hn]
  obtain ⟨m,hm,h3,h4⟩:=hk n (by omega)
  exact ⟨m,hm,by omega,by omega⟩
theorem SzLe.last {r:Option Int} {left c:Int} (h:SzLe r left c) (hl:0≤left) (hc:0≤c):SzLe (r.bind fun y=>cond (ltI y 0) (some (-1)) (some y)) left 0 :=
 h.two hl hc fun n hn=>⟨n,rfl,Int.le_refl _,by omega⟩
def zSt:TStructure:=⟨[],[]⟩
structure TwoOK (a b:List TStructure):Prop where
 l:a.length+b.length≤1048576
 a:∀ x∈a,sm x
 b:∀ x∈b,sm x
theorem getD_sm {b:List TStructure} (h:∀ x∈b,sm x) (i:Nat) (hi:i < b.length):sm (b.getD i zSt):=by
 have:b.getD i zSt=b[i]:=by simp [List.getD,hi]
 rw [this]
 exact h _ (List.getElem_mem hi)
end Go.Ev


namespace Go.Ev
open Wf (wf)
open Sm (sm lg)

def wkN (x:TNode):TNode:=⟨x.vars,x.reach,1,x.many⟩
def weakF (s:TStructure):TStructure:=⟨s.nodes.map wkN,s.next⟩
theorem wk_len (ns:List TNode) (i:Nat) (h:i≤ns.length):((ns.take i).map wkN ++ ns.drop i).length=ns.length:=by
 simp only [List.length_append,List.length_map,List.length_take,List.length_drop]
 omega
theorem wk_at (ns:List TNode) (i:Nat) (h:i < ns.length):((ns.take i).map wkN ++ ns.drop i)[i]?=some ns[i]:=by
 rw [List.getElem?_append_right (by simp only [List.length_map,List.length_take];omega)]
 simp only [List.length_map,List.length_take]
 rw [Nat.min_eq_left (by omega),Nat.sub_self,List.getElem?_drop]
 simp [h]
theorem wk_set (ns:List TNode) (i:Nat) (h:i < ns.length):((ns.take i).map wkN ++ ns.drop i).set i (wkN ns[i])=(ns.take (i+1)).map wkN ++ ns.drop (i+1):=by
 have hl:((ns.take i).map wkN).length=i:=by simp only [List.length_map,List.length_take];omega
 rw [List.set_append_right _ _ (by omega),hl,Nat.sub_self,List.take_succ_eq_append_getElem h,List.map_append,List.append_assoc,List.drop_eq_getElem_cons h]
 rfl
theorem sm_weak {s:TStructure} (h:sm s):sm (weakF s):=by
 refine ⟨⟨by have:=h.1.1;simpa [weakF] using this,fun y hy=>?_⟩,h.2⟩
 obtain ⟨x,hx,rfl⟩:=List.mem_map.1 hy
 have:=h.1.2 x hx
 exact ⟨this.1,this.2⟩
def wkAll (l:List TStructure):List TStructure:=addK (fun i=>weakF (l.getD i zSt)) [] l.length
theorem zqm {l:List TStructure} (h:sm l) (k:Nat) (hk:k≤l.length):(addK (fun i=>weakF (l.getD i zSt)) [] k).length≤k∧∀ x∈addK (fun i=>weakF (l.getD i zSt)) [] k,sm x:=by
 have hl:=h.1
 have:=addK_ok (g:=fun i=>weakF (l.getD i zSt)) (acc:=[]) (n:=l.length) (by simp;omega) (by simp) (fun i hi=>sm_weak (getD_sm h.2 i hi)) k hk
 simpa using this
theorem spec_weak {l:List TStructure} (h:sm l):zdn l=some (wkAll l):=by
 have hl:=h.1
 unfold zdn
 refine Tot.eq (Tot.bind (P:=(· = wkAll l)) (Tot.loop (fun k q=>q=(addK (fun i=>weakF (l.getD i zSt)) [] k,(k:Int))) l.length rfl fun k q hI hk=>?_) fun r hr=>by subst hr;exact Tot.ret rfl)
 subst hI
 obtain ⟨a1,a2⟩:=zqm h k hk
 simp only [ltI,zai]
 by_cases hlt:k < l.length
 ·have hs:=h.2 _ (List.getElem_mem hlt)
  have hn:=hs.1.1
  rw [if_pos (by omega),zcv,List.getElem?_eq_getElem hlt,Option.bind_some,zlb _ (zem hs),Option.bind_some]
  refine Tot.bind (P:=(· = l[k].nodes.map wkN)) (Tot.loop (fun i q=>q=((i:Int),(l[k].nodes.take i).map wkN ++ l[k].nodes.drop i)) l[k].nodes.length (by simp) fun i q hJ hi=>?_) fun r hr=>?_
  ·subst hJ
   rw [wk_len _ _ hi]
   by_cases h2:i < l[k].nodes.length
   ·rw [if_pos (by omega),zcv,wk_at _ _ h2,Option.bind_some,Int.toNat_natCast,zap (by omega) (by omega)]
    exact Tot.ret ⟨h2,congrArg (Prod.mk _) (wk_set _ _ h2)⟩
   ·rw [if_neg (by omega)]
    have:i=l[k].nodes.length:=by omega
    subst this
    exact Tot.ret (by simp)
  ·subst hr
   rw [show (⟨l[k].nodes.map wkN,l[k].next⟩:TStructure)=weakF l[k] from rfl,spec_add ⟨by omega,a2⟩ (sm_weak hs),Option.bind_some,zap (by omega) (by omega)]
   exact Tot.ret ⟨hlt,by rw [addK];simp [List.getD,hlt]⟩
 ·rw [if_neg (by omega)]
  have:k=l.length:=by omega
  subst this
  exact Tot.ret rfl
theorem impl_weak {l:List TStructure} (h:sm l):zcy l=some (wkAll l):=by
 have hl:=h.1
 unfold zcy
 refine Tot.eq (Tot.bind (P:=(· = wkAll l)) (Tot.loop (fun k q=>q=(addK (fun i=>weakF (l.getD i zSt)) [] k,(k:Int))) l.length rfl fun k q hI hk=>?_) fun r hr=>by subst hr;exact Tot.ret rfl)
 subst hI
 obtain ⟨a1,a2⟩:=zqm h k hk
 simp only [ltI,zai]
 by_cases hlt:k < l.length
 ·have hs:=h.2 _ (List.getElem_mem hlt)
  have hn:=hs.1.1
  rw [if_pos (by omega),zcv,List.getElem?_eq_getElem hlt,Option.bind_some,zoy _ (zem hs),Option.bind_some]
  refine Tot.bind (P:=(· = l[k].nodes.map wkN)) (Tot.loop (fun i q=>q=((i:Int),(l[k].nodes.take i).map wkN ++ l[k].nodes.drop i)) l[k].nodes.length (by simp) fun i q hJ hi=>?_) fun r hr=>?_
  ·subst hJ
   by_cases h2:i < l[k].nodes.length
   ·rw [if_pos (by omega),zcv,wk_at _ _ h2,Option.bind_some,Int.toNat_natCast,zap (by omega) (by omega)]
    exact Tot.ret ⟨h2,congrArg (Prod.mk _) (wk_set _ _ h2)⟩
   ·rw [if_neg (by omega)]
    have:i=l[k].nodes.length:=by omega
    subst this
    exact Tot.ret (by simp)
  ·subst hr
   rw [show (⟨l[k].nodes.map wkN,l[k].next⟩:TStructure)=weakF l[k] from rfl,impl_add ⟨by omega,a2⟩ (sm_weak hs),Option.bind_some,zap (by omega) (by omega)]
   exact Tot.ret ⟨hlt,by rw [addK];simp [List.getD,hlt]⟩
 ·rw [if_neg (by omega)]
  have:k=l.length:=by omega
  subst this
  exact Tot.ret rfl
theorem law_WeakenSet {a:List TStructure} (hw:wf a):laws_FnExactWeakenSet a=some true:=by
 unfold laws_FnExactWeakenSet
 obtain ⟨n,h1,h2,h3,h4⟩:=znu hw (left:=1048576) (by omega)
 rw [h1,Option.bind_some,zcu]
 by_cases hn:n < 0
 ·rw [if_pos hn]
 ·rw [if_neg hn]
  have sa:=h3 (by omega)
  have la:=sa.1
  obtain ⟨f1,f2⟩:=zqm sa a.length (Nat.le_refl _)
  have MA:=mkSt (l:=a) (by omega) sa.2
  have MG:MkSt (wkAll a):=mkSt (by unfold wkAll;omega) f2
  have ba:=MA.b
  have bg:=MG.b
  have e1:=zhb a 1 (by omega) ba
  have e2:=zhb (wkAll a) 1 (by omega) bg
  have n1:ltI (zal a 1).2 0=false:=by simp only [ltI,decide_eq_false_iff_not];omega
  have n2:ltI (zal (wkAll a) 1).2 0=false:=by simp only [ltI,decide_eq_false_iff_not];omega
  simp [znq sa,spec_weak sa,impl_weak sa,zjf MA.lg,zjf MG.lg,zqd MA.lg,zqd MG.lg,n1,n2,zml MG.lg (by omega) bg,neI]
end Go.Ev


namespace Go.Proofs
open Go.Ev
theorem st0 {g:Cfg} {f:Nat} {args:List AV} {fn:Go.Func} {r:AV} (l:List Go.ResultVar) (h1:Tryz.prog.funcs[f]?=some fn) (h:Goal (FnEnd Tryz.prog 0 l ((lookK (f,atEnd) g.gho).getD []) r) (evk g (0+1) f (fn.body.getD .skip) [] { env:=fun t=>(args[t]?).getD .dead,mem:=mem0 }))
 (h0:lookN f g.ctx=none:=by rfl) (hP:g.P=Tryz.prog:=by rfl) (h2:fn.body=some (fn.body.getD .skip):=by kernel_rfl) (h3:fnOK g f fn=true:=by kernel_rfl) (h4:Nat.ble args.length fn.ntmps=true:=by kernel_rfl) (h5:fn.results.toList=l:=by rfl):∃ m,callo g 0 f args mem0=some (r,m) :=
 start_fn _ l h0 hP h1 h2 h3 (Nat.le_of_ble_eq_true h4) h5 h
theorem ent {f : Nat} {fn : Go.Func} (h : Tryz.prog.funcs[f]? = some fn) (h1 : fn.body.isSome = true := by kernel_rfl) (h2 : (fn.name == "runtime.NumGoroutine") = false := by kernel_rfl) : Go.Ev.Enters Tryz.prog f := ⟨fn, h, h1, h2⟩
@[simp] theorem ti_3:ti Tryz.prog 3=some { size:=1,bytes:=8,agg:=false,elem:=none,flds:=[],zero:=[.int .i64 0] }:=by kernel_rfl
@[simp] theorem ti_9:ti Tryz.prog 9=some { size:=1,bytes:=16,agg:=false,elem:=none,flds:=[],zero:=[.string ByteArray.empty] }:=by kernel_rfl
attribute [simp] Tryz.underlying9
@[simp] theorem ti_22:ti Tryz.prog 22=some { size:=1,bytes:=24,agg:=false,elem:=some 26,flds:=[],zero:=[.slice none 0 0] }:=by kernel_rfl
@[simp] theorem ti_23:ti Tryz.prog 23=some { size:=1,bytes:=24,agg:=false,elem:=some 77,flds:=[],zero:=[.slice none 0 0] }:=by kernel_rfl
@[simp] theorem ti_24:ti Tryz.prog 24=some { size:=1,bytes:=24,agg:=false,elem:=some 3,flds:=[],zero:=[.slice none 0 0] }:=by kernel_rfl
@[simp] theorem ti_26:ti Tryz.prog 26=some { size:=2,bytes:=48,agg:=true,elem:=none,flds:=[(0,23),(1,24)],zero:=[.slice none 0 0,.slice none 0 0] }:=by kernel_rfl
@[simp] theorem ti_29:ti Tryz.prog 29=some { size:=1,bytes:=24,agg:=false,elem:=some 34,flds:=[],zero:=[.slice none 0 0] }:=by kernel_rfl
@[simp] theorem ti_32:ti Tryz.prog 32=some { size:=1,bytes:=24,agg:=false,elem:=some 67,flds:=[],zero:=[.slice none 0 0] }:=by kernel_rfl
@[simp] theorem ti_34:ti Tryz.prog 34=some { size:=2,bytes:=48,agg:=true,elem:=none,flds:=[(0,32),(1,24)],zero:=[.slice none 0 0,.slice none 0 0] }:=by kernel_rfl
@[simp] theorem ti_45:ti Tryz.prog 45=some { size:=1,bytes:=24,agg:=false,elem:=some 71,flds:=[],zero:=[.slice none 0 0] }:=by kernel_rfl
@[simp] theorem ti_48:ti Tryz.prog 48=some { size:=1,bytes:=24,agg:=false,elem:=some 73,flds:=[],zero:=[.slice none 0 0] }:=by kernel_rfl
@[simp] theorem ti_67:ti Tryz.prog 67=some { size:=4,bytes:=64,agg:=true,elem:=none,flds:=[(0,24),(1,24),(2,3),(3,3)],zero:=[.slice none 0 0,.slice none 0 0,.int .i64 0,.int .i64 0] }:=by kernel_rfl
@[simp] theorem ti_71:ti Tryz.prog 71=some { size:=2,bytes:=48,agg:=true,elem:=none,flds:=[(0,24),(1,24)],zero:=[.slice none 0 0,.slice none 0 0] }:=by kernel_rfl
@[simp] theorem ti_73:ti Tryz.prog 73=some { size:=2,bytes:=48,agg:=true,elem:=none,flds:=[(0,24),(1,24)],zero:=[.slice none 0 0,.slice none 0 0] }:=by kernel_rfl
@[simp] theorem ti_77:ti Tryz.prog 77=some { size:=4,bytes:=64,agg:=true,elem:=none,flds:=[(0,24),(1,24),(2,3),(3,3)],zero:=[.slice none 0 0,.slice none 0 0,.int .i64 0,.int .i64 0] }:=by kernel_rfl
@[simp] theorem ti_80:ti Tryz.prog 80=some { size:=1,bytes:=24,agg:=false,elem:=some 24,flds:=[],zero:=[.slice none 0 0] }:=by kernel_rfl
@[simp] theorem ti_86:ti Tryz.prog 86=some { size:=1,bytes:=24,agg:=false,elem:=some 9,flds:=[],zero:=[.slice none 0 0] }:=by kernel_rfl
end Go.Proofs


namespace Go.Proofs
open Go.Shelf Go.RowKit Go.Lib Go.Ev

def Tryz.joinL_ren:Go.Shelf.Ren:=⟨fun | 156=>141 | 165=>156 | 166=>157 | 169=>158 | 240=>162 | 241=>163 | 276=>168 | 277=>169 | n=>n,fun | 31=>86 | 9=>9 | 3=>3 | 4=>4 | 0=>0 | 20=>20 | 72=>144 | 76=>148 | 70=>142 | 37=>118 | 75=>147 | 127=>155 | 164=>160 | 5=>5 | 80=>150 | n=>n,fun | n=>n⟩
theorem Tryz.joinL:Go.Proofs.Lays.n156 Tryz.prog Tryz.joinL_ren:={
 mixed:=by kernel_rfl
 f156:=Tryz.func141.trans (congrArg some (by kernel_rfl))
 f165:=Tryz.func156.trans (congrArg some (by kernel_rfl))
 f166:=Tryz.func157.trans (congrArg some (by kernel_rfl))
 f169:=Tryz.func158.trans (congrArg some (by kernel_rfl))
 f240:=Tryz.func162.trans (congrArg some (by kernel_rfl))
 f241:=Tryz.func163.trans (congrArg some (by kernel_rfl))
 f276:=Tryz.func168.trans (congrArg some (by kernel_rfl))
 f277:=Tryz.func169.trans (congrArg some (by kernel_rfl))
 t0:=Tryz.underlying0
 a0:=Tryz.isAgg0
 z0:=Tryz.sizeOf0
 v0:=Tryz.zeroValue0
 t3:=Tryz.underlying3
 a3:=Tryz.isAgg3
 z3:=Tryz.sizeOf3
 v3:=Tryz.zeroValue3
 t4:=Tryz.underlying4
 a4:=Tryz.isAgg4
 z4:=Tryz.sizeOf4
 v4:=Tryz.zeroValue4
 t9:=Tryz.underlying9
 a9:=Tryz.isAgg9
 z9:=Tryz.sizeOf9
 v9:=Tryz.zeroValue9
 t20:=Tryz.underlying20
 a20:=Tryz.isAgg20
 z20:=Tryz.sizeOf20
 v20:=Tryz.zeroValue20
 t31:=Tryz.underlying86
 a31:=Tryz.isAgg86
 z31:=Tryz.sizeOf86
 v31:=Tryz.zeroValue86
 t37:=Tryz.underlying118
 a37:=Tryz.isAgg118
 z37:=Tryz.sizeOf118
 v37:=Tryz.zeroValue118
 t70:=Tryz.underlying142
 a70:=Tryz.isAgg142
 z70:=Tryz.sizeOf142
 v70:=Tryz.zeroValue142
 t72:=Tryz.underlying144
 a72:=Tryz.isAgg144
 z72:=Tryz.sizeOf144
 v72:=Tryz.zeroValue144
 t75:=Tryz.underlying147
 a75:=Tryz.isAgg147
 z75:=Tryz.sizeOf147
 v75:=Tryz.zeroValue147
 t76:=Tryz.underlying148
 a76:=Tryz.isAgg148
 z76:=Tryz.sizeOf148
 v76:=Tryz.zeroValue148
 t127:=Tryz.underlying155
 a127:=Tryz.isAgg155
 z127:=Tryz.sizeOf155
 v127:=Tryz.zeroValue155
 t164:=Tryz.underlying160
 a164:=Tryz.isAgg160
 z164:=Tryz.sizeOf160
 v164:=Tryz.zeroValue160 }

def Tryz.itoaL_ren:Go.Shelf.Ren:=⟨fun | 171=>140 | 243=>155 | 246=>161 | 283=>164 | 284=>165 | 285=>166 | 286=>167 | 129=>136 | 317=>170 | 318=>171 | 319=>172 | 320=>173 | 337=>174 | 338=>175 | n=>n,fun | 3=>3 | 9=>9 | 2=>2 | 4=>4 | 171=>156 | 0=>0 | 53=>132 | 37=>118 | 5=>5 | 173=>158 | 212=>164 | 51=>130 | 20=>20 | 213=>165 | 46=>107 | 232=>166 | 233=>167 | n=>n,fun | 17=>1 | 18=>2 | 19=>3 | n=>n⟩
theorem Tryz.itoaL:Go.Proofs.Lays.n171 Tryz.prog Tryz.itoaL_ren:={
 mixed:=by kernel_rfl
 f129:=Tryz.func136.trans (congrArg some (by kernel_rfl))
 f171:=Tryz.func140.trans (congrArg some (by kernel_rfl))
 f243:=Tryz.func155.trans (congrArg some (by kernel_rfl))
 f246:=Tryz.func161.trans (congrArg some (by kernel_rfl))
 f283:=Tryz.func164.trans (congrArg some (by kernel_rfl))
 f284:=Tryz.func165.trans (congrArg some (by kernel_rfl))
 f285:=Tryz.func166.trans (congrArg some (by kernel_rfl))
 f286:=Tryz.func167.trans (congrArg some (by kernel_rfl))
 f317:=Tryz.func170.trans (congrArg some (by kernel_rfl))
 f318:=Tryz.func171.trans (congrArg some (by kernel_rfl))
 f319:=Tryz.func172.trans (congrArg some (by kernel_rfl))
 f320:=Tryz.func173.trans (congrArg some (by kernel_rfl))
 f337:=Tryz.func174.trans (congrArg some (by kernel_rfl))
 f338:=Tryz.func175.trans (congrArg some (by kernel_rfl))
 t0:=Tryz.underlying0
 a0:=Tryz.isAgg0
 z0:=Tryz.sizeOf0
 v0:=Tryz.zeroValue0
 t2:=Tryz.underlying2
 a2:=Tryz.isAgg2
 z2:=Tryz.sizeOf2
 v2:=Tryz.zeroValue2
 t3:=Tryz.underlying3
 a3:=Tryz.isAgg3
 z3:=Tryz.sizeOf3
 v3:=Tryz.zeroValue3
 t4:=Tryz.underlying4
 a4:=Tryz.isAgg4
 z4:=Tryz.sizeOf4
 v4:=Tryz.zeroValue4
 t5:=Tryz.underlying5
 a5:=Tryz.isAgg5
 z5:=Tryz.sizeOf5
 v5:=Tryz.zeroValue5
 t9:=Tryz.underlying9
 a9:=Tryz.isAgg9
 z9:=Tryz.sizeOf9
 v9:=Tryz.zeroValue9
 t20:=Tryz.underlying20
 a20:=Tryz.isAgg20
 z20:=Tryz.sizeOf20
 v20:=Tryz.zeroValue20
 t37:=Tryz.underlying118
 a37:=Tryz.isAgg118
 z37:=Tryz.sizeOf118
 v37:=Tryz.zeroValue118
 t46:=Tryz.underlying107
 a46:=Tryz.isAgg107
 z46:=Tryz.sizeOf107
 v46:=Tryz.zeroValue107
 t51:=Tryz.underlying130
 a51:=Tryz.isAgg130
 z51:=Tryz.sizeOf130
 v51:=Tryz.zeroValue130
 t53:=Tryz.underlying132
 a53:=Tryz.isAgg132
 z53:=Tryz.sizeOf132
 v53:=Tryz.zeroValue132
 t171:=Tryz.underlying156
 a171:=Tryz.isAgg156
 z171:=Tryz.sizeOf156
 v171:=Tryz.zeroValue156
 t173:=Tryz.underlying158
 a173:=Tryz.isAgg158
 z173:=Tryz.sizeOf158
 v173:=Tryz.zeroValue158
 t212:=Tryz.underlying164
 a212:=Tryz.isAgg164
 z212:=Tryz.sizeOf164
 v212:=Tryz.zeroValue164
 t213:=Tryz.underlying165
 a213:=Tryz.isAgg165
 z213:=Tryz.sizeOf165
 t232:=Tryz.underlying166
 a232:=Tryz.isAgg166
 z232:=Tryz.sizeOf166
 v232:=Tryz.zeroValue166
 t233:=Tryz.underlying167
 a233:=Tryz.isAgg167
 z233:=Tryz.sizeOf167
 v233:=Tryz.zeroValue167
 g17:=by kernel_rfl
 g18:=by kernel_rfl
 g19:=by kernel_rfl }

theorem Tryz.joinX:Builder.Extra Tryz.prog Tryz.joinL_ren:={
 sizeBuilder:=by kernel_rfl
 liesBuilder:=by kernel_rfl
 t5:=Tryz.underlying5
 a5:=Tryz.isAgg5
 z5:=Tryz.sizeOf5
 v5:=Tryz.zeroValue5
 infoByte:=by kernel_rfl
 cellsByte:=by kernel_rfl
 sizeByte:=by kernel_rfl
 neB5:=by decide }
theorem pcG141:PC Tryz.prog 141 (specP (X:=List ByteArray × ByteArray × Unit) fun x=>joinF x.1 x.2.1) :=
 pc_join ⟨Tryz.f141,Tryz.func141,by kernel_rfl,by kernel_rfl⟩ (fun a c sep w=>(Any.strings_Join_none Tryz.joinL Tryz.joinX a c sep w).mono fun e w' h=>⟨h.1,h.2 ▸ Below.refl _ _⟩)
  fun b o c xs sep w _ hc hb h1 h2 h3=>Any.strings_Join Tryz.joinL Tryz.joinX b o c xs sep w hc hb (by omega) h2 (show (joinL xs sep).length≤_ by omega)
theorem dec_dig (k:Nat) (h:k < 10):Lib.decDigits k=[UInt8.ofNat (48+k)]:=by
 unfold Lib.decDigits
 rw [dif_pos h]
theorem pcG140:PC Tryz.prog 140 (specP (X:=Int × Unit) fun x=>digF x.1) :=
 pc_dig ⟨Tryz.f140,Tryz.func140,by kernel_rfl,by kernel_rfl⟩ fun k w hk=>(Any.strconv_Itoa_small Tryz.itoaL k (by omega) w).mono fun e w' h=>⟨by rw [h.1,dec_dig k hk],h.2 ▸ Below.refl _ _⟩
end Go.Proofs


namespace Go.Proofs
open Go.Shelf Go.RowKit Go.Lib Go.Ev Go.Sort

set_option maxHeartbeats 4000000 in
set_option maxRecDepth 1000000 in
theorem dig123 (k:Nat) (w:World) (hk:k < 10):Calls Tryz.prog 123 #[.int .i64 k] w fun e w'=>e=.returned (.string ⟨#[UInt8.ofNat (48+k)]⟩)∧Below w.heap.size w w':=by
 rcases Nat.eq_zero_or_pos k with rfl | hp
 ·go_enter Tryz.func123,Tryz.ntmps123
  go_wp2
  go_ret
  exact ⟨rfl,Below.refl _ _⟩
 ·have hp':¬ ((k:Int)=0):=by omega
  have hn':¬ ((k:Int) < 0):=by omega
  go_enter Tryz.func123,Tryz.ntmps123
  go_wp2
  go_loopg [0,4] 1 (fun g s0 s4 wr=>∃ (x:Int) (out:ByteArray),s0=.int .i64 x∧s4=.string out∧Hid ((g=1∧x=k∧out=⟨#[]⟩∨g=0∧x=0∧out=⟨#[UInt8.ofNat (48+k)]⟩)∧Below w.heap.size w wr))
  case atStart=>exact ⟨k,_,rfl,rfl,.inl ⟨rfl,rfl,rfl⟩,Below.refl _ _⟩
  case round =>
   obtain ⟨x,out,rfl,rfl,hI,hB⟩:=hrel
   have HB:Hid _:=hB
   clear hB
   rcases hI with ⟨rfl,rfl,rfl⟩|⟨rfl,rfl,rfl⟩
   ·have hm:(k:Int).tmod 10=k:=by rw [Int.tmod_eq_emod_of_nonneg (by omega)];omega
    have hm2:(k:Int) % 10=k:=by omega
    have hq:(k:Int) / 10=0:=by omega
    have hq2:(k:Int).tdiv 10=0:=by rw [Int.tdiv_eq_ediv_of_nonneg (by omega)];omega
    have hconv:(convert 118 9 (.slice (some ⟨wr.heap.size,0,none⟩) 1 1)).run Tryz.prog (wr.alloc (.cells #[.int .u8 (48+k)] 5))=.ok (.string ⟨#[UInt8.ofNat (48+k)]⟩) (wr.alloc (.cells #[.int .u8 (48+k)] 5)):=by
     have:=run_convert_bytes_arg (P:=Tryz.prog) (wr.alloc (.cells #[.int .u8 (48+k)] 5)) 118 5 Tryz.underlying118 Tryz.underlying5 wr.heap.size 0 1 1 [48+(k:Int)] rfl (fun i hi=>by
      obtain rfl:i=0:=by omega
      simp) 9 Tryz.underlying9
     rw [this]
     rfl
    go_wp2
    go_roundg 0
    case measure=>omega
    case rel=>exact ⟨_,_,rfl,rfl,.inr ⟨rfl,by simp,by simp;rfl⟩,HB.out.alloc HB.out.size _⟩
   ·go_wp2
    go_ret
    exact ⟨rfl,HB.out⟩

theorem join_snoc (l:List (List UInt8)) (x sep:List UInt8) (h:l≠[]):Lib.join (l ++ [x]) sep=Lib.join l sep ++ sep ++ x:=by
 cases l with
 | nil=>exact absurd rfl h
 | cons a r =>
  rw [List.cons_append,Lib.join_cons,Lib.join_cons]
  simp [Lib.joinTail]
theorem zmk (xs:List ByteArray) (sep:ByteArray) (i:Nat) (h:i < xs.length):joinL (xs.take (i+1)) sep=if i=0 then xs[i].data.toList else joinL (xs.take i) sep ++ sep.data.toList ++ xs[i].data.toList:=by
 unfold joinL
 rw [List.take_succ_eq_append_getElem h,List.map_append,List.map_cons,List.map_nil]
 split
 ·rename_i h0
  subst h0
  simp [Lib.join_one]
 ·rename_i hi
  have hne:(xs.take i).map (·.data.toList)≠[]:=by
   intro h0
   rw [List.map_eq_nil_iff,List.take_eq_nil_iff] at h0
   rcases h0 with h0 | h0
   ·exact hi h0
   ·subst h0
    simp at h
  exact join_snoc _ _ _ hne
theorem joinL_mono (xs:List ByteArray) (sep:ByteArray) (i:Nat) (h:i≤xs.length):(joinL (xs.take i) sep).length≤(joinL xs sep).length:=by
 have:∀ k,i+k≤xs.length→(joinL (xs.take i) sep).length≤(joinL (xs.take (i+k)) sep).length:=by
  intro k
  induction k with
  | zero=>intro _;exact Nat.le_refl _
  | succ k ih =>
   intro hk
   refine Nat.le_trans (ih (by omega)) ?_
   rw [show i+(k+1)=i+k+1 by omega,zmk xs sep (i+k) (by omega)]
   split
   ·rename_i h0
    have e:(joinL (xs.take (i+k)) sep).length=0:=by rw [h0];simp [joinL,Lib.join_nil]
    omega
   ·simp only [List.length_append];omega
 have h2:=this (xs.length - i) (by omega)
 rw [show i+(xs.length - i)=xs.length by omega,List.take_length] at h2
 exact h2
def jcells (l:List UInt8):List Value:=l.map fun b=>Value.int .u8 b.toNat
theorem info5:(Tryz.prog.info? 5).map (fun i=>(i.zero,i.size,i.bytes))=some (some (.int .u8 0),1,1):=by kernel_rfl

theorem conv118 {w:World} {base:Nat} {v:Value} {L:List UInt8} (h:w.ownsRow base 5 1 v L.length (jcells L)):(convert 118 9 v).run Tryz.prog w=.ok (.string ⟨L.toArray⟩) w:=by
 have e:strOfNums (L.map fun b=>(b.toNat:Int))=⟨L.toArray⟩:=by
  unfold strOfNums
  rw [List.map_map]
  congr 2
  conv=>rhs;rw [← List.map_id L]
  exact List.map_congr_left fun b _=>by simp
 rcases h.2 with ⟨rfl,h0⟩|⟨g,cap,cur,rfl,_⟩
 ·rw [run_convert_bytes_nil w 118 5 Tryz.underlying118 Tryz.underlying5 0 0 9 Tryz.underlying9]
  have:L=[]:=List.length_eq_zero_iff.1 h0
  subst this
  rfl
 ·have:=run_convert_bytes_arg (P:=Tryz.prog) w 118 5 Tryz.underlying118 Tryz.underlying5 g 0 L.length cap (L.map fun b=>(b.toNat:Int)) (by simp) (fun i hi=>by
   rw [Nat.zero_add,h.cellAt i (by omega),jcells,List.getElem?_map,List.getElem?_eq_getElem hi]
   simp [hi]) 9 Tryz.underlying9
  rw [this,e]

set_option maxHeartbeats 4000000 in
set_option maxRecDepth 1000000 in
theorem join87 (base:Option Addr) (b o c n:Nat) (xs:List ByteArray) (sep:ByteArray) (w:World) (hbase:0 < n→base=some ⟨b,o,none⟩) (hc:Hid (∀ (j:Nat) x,xs[j]?=some x→w.cell? ⟨b,o+j,none⟩=some (.string x))) (hb:Hid (0 < n→b < w.heap.size)) (hl:Hid (xs.length=n)) (hn:n≤1000000) (hlen:Hid ((joinL xs sep).length≤1000000000)) :
 Calls Tryz.prog 87 #[.slice base n c,.string sep] w fun e w'=>e=.returned (.string ⟨(joinL xs sep).toArray⟩)∧Below w.heap.size w w':=by
 obtain ⟨i0,hi,hz0,hz1,hz2⟩:=info_parts info5
 have B:Aside (i0.size=1∧i0.bytes=1):=⟨hz1,hz2⟩
 clear hz1 hz2
 go_enter Tryz.func87,Tryz.ntmps87
 go_wp2
 go_loopg [5,6] n (fun k v s6 wr=>∃ i,k=n - i∧i≤n∧s6=.int .i64 i∧Hid (wr.ownsRow w.heap.size 5 1 v (joinL (xs.take i) sep).length (jcells (joinL (xs.take i) sep))∧Below w.heap.size w wr))
 case atStart=>exact ⟨0,rfl,Nat.zero_le _,rfl,by
  refine ⟨?_,(Below.refl _ _).alloc (Nat.le_refl _) _⟩
  have:=World.ownsRow_lit (base:=w.heap.size) (e:=5) (size:=1) w #[] 0 (Nat.le_refl _) (by decide) rfl
  simpa [joinL,Lib.join_nil,jcells] using this⟩
 case round =>
  obtain ⟨i,hk,hi2,rfl,hI⟩:=hrel
  have HI:Hid _:=hI
  clear hI
  by_cases hlt:i < n
  ·obtain rfl:=hbase (by omega)
   have hli:i < xs.length:=by rw [hl.out];exact hlt
   have hx0:w.cell? ⟨b,o+i,none⟩=some (.string xs[i]):=hc.out i _ (List.getElem?_eq_getElem hli)
   obtain ⟨x,hx⟩:∃ x,x=xs[i]:=⟨_,rfl⟩
   rw [← hx] at hx0
   have hxc:wr.cell? ⟨b,o+i,none⟩=some (.string x):=by rw [HI.out.2.cell (hb.out (by omega))];exact hx0
   have HX:Hid (x=xs[i]):=hx
   clear hx hx0
   have hlt':(i:Int) < (n:Int):=by omega
   have hz:Hid ((joinL (xs.take (i+1)) sep).length≤1000000000):=Nat.le_trans (joinL_mono xs sep (i+1) hli) hlen.out
   by_cases h0:i=0
   ·subst h0
    have h0':¬ ((0:Int) > 0):=by omega
    rw [Nat.add_zero] at hxc
    have e1:Hid (joinL (xs.take (0+1)) sep=x.data.toList):=by show _=_;rw [zmk xs sep 0 hli,if_pos rfl,HX.out]
    have e0:Hid (joinL (xs.take 0) sep=[]):=by show _=_;simp [joinL,Lib.join_nil]
    have hs:Hid ((joinL (xs.take 0) sep).length+x.size≤1000000000):=by
     have:=hz.out
     rw [e1.out,Array.length_toList] at this
     rw [e0.out]
     show 0+x.data.size≤_
     omega
    go_wp2_with (at_builtin;refine wpList_append_own_string _ rfl _ _ 118 9 rfl w.heap.size 5 i0 Tryz.underlying118 Tryz.underlying9 hi hz0 B.out.1 B.out.2 _ _ _ rfl HI.out.1 x rfl (Nat.le_trans hs.out (by decide)) (Nat.le_trans hs.out (by decide)) HI.out.2.size ?_;rintro v' w' hown hgr hnil)
    go_roundg (n - 1)
    case measure=>omega
    case rel =>
     refine ⟨1,rfl,by omega,rfl,?_,HI.out.2.grown hgr HI.out.2.size fun k hk=>(HI.out.1.lt k hk).1⟩
     rw [show (1:Nat)=0+1 from rfl,e1.out]
     rw [e0.out] at hown
     have e2:x.data.toList.length=x.size:=Array.length_toList
     rw [e2]
     simpa [jcells,strCells] using hown
   ·have h0':(i:Int) > 0:=by omega
    have e1:Hid (joinL (xs.take (i+1)) sep=joinL (xs.take i) sep ++ sep.data.toList ++ x.data.toList):=by show _=_;rw [zmk xs sep i hli,if_neg h0,HX.out]
    have hs:Hid ((joinL (xs.take i) sep).length+sep.size+x.size≤1000000000):=by
     have:=hz.out
     rw [e1.out,List.length_append,List.length_append,Array.length_toList,Array.length_toList] at this
     exact this
    have hbw:Hid (b < w.heap.size):=hb.out (by omega)
    have hx0:Hid (w.cell? ⟨b,o+i,none⟩=some (.string x)):=by show _=_;rw [← HI.out.2.cell hbw.out];exact hxc
    clear hxc
    go_wp2_with (first | (at_builtin;refine wpList_append_own_string _ rfl _ _ 118 9 rfl w.heap.size 5 i0 Tryz.underlying118 Tryz.underlying9 hi hz0 B.out.1 B.out.2 _ _ _ rfl HI.out.1 sep rfl (Nat.le_trans (Nat.le_trans (Nat.le_add_right _ _) hs.out) (by decide)) (Nat.le_trans (Nat.le_trans (Nat.le_add_right _ _) hs.out) (by decide)) HI.out.2.size ?_;rintro v' w' hown hgr hnil;have HB:Hid (RowKit.Below w.heap.size w w'):=HI.out.2.grown hgr HI.out.2.size fun k hk=>(HI.out.1.lt k hk).1;have hxc:w'.cell? ⟨b,o+i,none⟩=some (.string x):=(HB.out.cell hbw.out).trans hx0.out;have HO:Hid _:=hown;clear hown hgr hnil) | (at_builtin;refine wpList_append_own_string _ rfl _ _ 118 9 rfl w.heap.size 5 i0 Tryz.underlying118 Tryz.underlying9 hi hz0 B.out.1 B.out.2 _ _ _ rfl HO.out x rfl (Nat.le_trans hs.out (by decide)) (Nat.le_trans hs.out (by decide)) HB.out.size ?_;rintro v2 w2 hown2 hgr2 hnil2))
    go_roundg (n - (i+1))
    case measure=>omega
    case rel =>
     refine ⟨i+1,rfl,by omega,by simp,?_,HB.out.grown hgr2 HB.out.size fun k hk=>(World.ownsRow.lt HO.out k hk).1⟩
     rw [e1.out]
     have e2:x.data.toList.length=x.size:=Array.length_toList
     have e3:sep.data.toList.length=sep.size:=Array.length_toList
     rw [List.length_append,List.length_append,e2,e3]
     simpa [jcells,strCells] using hown2
  ·obtain rfl:i=n:=by omega
   have hT:joinL (xs.take i) sep=joinL xs sep:=by rw [← hl.out,List.take_length]
   rw [hT] at HI
   obtain ⟨L,hL⟩:∃ L,L=joinL xs sep:=⟨_,rfl⟩
   rw [← hL] at HI
   have HL:Hid (L=joinL xs sep):=hL
   have hconv:=conv118 HI.out.1
   clear hL hT
   have hB:Hid (RowKit.Below w.heap.size w wr):=HI.out.2
   clear HI
   obtain ⟨cv,hcv⟩:∃ cv,cv=(⟨L.toArray⟩:ByteArray):=⟨_,rfl⟩
   rw [← hcv] at hconv
   have HC:Hid (cv=(⟨L.toArray⟩:ByteArray)):=hcv
   clear hcv
   go_wp2
   go_ret
   exact ⟨by rw [HC.out,HL.out];rfl,hB.out⟩
theorem pcG87:PC Tryz.prog 87 (specP (X:=List ByteArray × ByteArray × Unit) fun x=>joinF x.1 x.2.1) :=
 pc_join ⟨Tryz.f87,Tryz.func87,by kernel_rfl,by kernel_rfl⟩ (fun a c sep w=>by
  have:=join87 a 0 0 c 0 [] sep w (fun h=>by omega) (fun j x h=>by simp at h) (fun h=>by omega) rfl (by omega) (by show _≤_;simp [joinL,Lib.join_nil])
  simpa [joinL,Lib.join_nil] using this)
  fun b o c xs sep w _ hc hb h1 h2 h3=>join87 _ b o c xs.length xs sep w (fun _=>rfl) hc (fun _=>hb) rfl h1 h3
theorem pcG123:PC Tryz.prog 123 (specP (X:=Int × Unit) fun x=>digF x.1) :=
 pc_dig ⟨Tryz.f123,Tryz.func123,by kernel_rfl,by kernel_rfl⟩ fun k w hk=>dig123 k w hk
end Go.Proofs


namespace Go.Proofs
open Go.Shelf Go.RowKit Go.Lib Go.Ev

theorem info34:(Tryz.prog.info? 34).map (fun i=>(i.zero,i.size,i.bytes))=some (some (.agg #[.slice none 0 0,.slice none 0 0]),2,48):=by kernel_rfl

set_option maxHeartbeats 4000000 in
set_option maxRecDepth 100000 in
theorem ins_shift (b n c i vb vc:Nat) (cs vs:List Value) (w:World) (hi:i < n) (hroom:n+1≤c) (hn1:n≤3000000) (hvb:vb≠b)
 (hcl:cs.length=n * 2) (hvl:vs.length=2)
 (hcs:∀ j v,cs[j]?=some v→w.cell? ⟨b,j,none⟩=some v) (hsp:∀ j,j < (n+1) * 2→(w.cell? ⟨b,j,none⟩).isSome=true) (hfz:∀ j,j < (n+1) * 2→w.frozen? ⟨b,j,none⟩=false)
 (hvs:∀ j v,vs[j]?=some v→w.cell? ⟨vb,j,none⟩=some v) (h1c:∀ v∈cs,v.oneCell'=true) (h1v:∀ v∈vs,v.oneCell'=true)
 (tA tB:TypeId) (kA kB:Nat) (hsa:w.shape? vb=some (tA,kA)) (hsb:w.shape? b=some (tB,kB)) (hkB:kB≠0) (hfa:w.frozen? ⟨vb,0,none⟩=false) (hfe:w.frozen? ⟨vb,kA,none⟩=false) :
 Calls Tryz.prog 42 #[.slice (some ⟨b,0,none⟩) n c,.int .i64 i,.slice (some ⟨vb,0,none⟩) 1 vc] w fun e w' =>
  e=.returned (.slice (some ⟨b,0,none⟩) (n+1) c)∧w'=(w.drew.setCells b ((i+1) * 2) (cs.drop (i * 2))).setCells b (i * 2) vs:=by
 have u29:=run_underlying Tryz.underlying29
 have mixed:Tryz.prog.follows .mixedOrders=true:=by kernel_rfl
 have hz2:¬ ((i:Int)=(n:Int)):=by omega
 have hsz:(Tryz.prog.info? 34).map (·.size)=some 2:=by
  obtain ⟨i0,hi0,h0,h1,h2⟩:=info_parts info34
  rw [hi0];simp [h1]
 have hov:∀ lb cb,(callFunc 74 #[.slice (some ⟨vb,0,none⟩) 1 vc,.slice (some ⟨b,(i+1) * 2,none⟩) lb cb]).run Tryz.prog w=.ok (.value (.bool false)) w:=fun lb cb=>by
  rw [run_callFunc_extern Tryz.func74 (by kernel_rfl) (by kernel_rfl) (by kernel_rfl) (e:=Extern.SlicesOverlaps.overlaps #[29,29] #[4]) (by kernel_rfl),
   Lib.run_overlaps_apart w 29 4 34 Tryz.underlying29 2 Tryz.sizeOf34 ⟨vb,0,none⟩ ⟨b,(i+1) * 2,none⟩ 1 vc lb cb hvb tA tB kA kB hsa hsb hkB hfa hfe]
  rfl
 have hw1:IntKind.i64.wrap ((i:Int)+1)=(i:Int)+1:=by rw [IntKind.wrap_i64];omega
 have hb1:(0:Int)≤(i:Int)+1:=by omega
 have hin:i≤n:=by omega
 have htn:((i:Int)+1).toNat=i+1:=by omega
 have hb2:¬ (c=i+1):=by omega
 have hb3:(i:Int)≤(n:Int)+1:=by omega
 have hb4:¬ (c=i):=by omega
 have hdl:(cs.drop (i * 2)).length=(n - i) * 2:=by rw [List.length_drop,hcl];omega
 have hcp1:∀ ty dc sc,(Builtin.copy_ #[29,29] ty #[.slice (some ⟨b,(i+1) * 2,none⟩) (n - i) dc,.slice (some ⟨b,i * 2,none⟩) (n+1 - i) sc]).run Tryz.prog w.drew=.ok (goInt (Nat.min (n+1 - i) (n - i))) (w.drew.setCells b ((i+1) * 2) (cs.drop (i * 2))):=fun ty dc sc =>
  zjp w.drew _ _ ty 34 2 b ((i+1) * 2) (n - i) dc ⟨b,i * 2,none⟩ (n+1 - i) sc (cs.drop (i * 2)) Tryz.underlying29 hsz (by rw [hdl];simp only [Nat.min_def];split <;> omega)
   (fun j v hj=>by rw [Addr.add_lit];exact hcs (i * 2+j) v (by rwa [List.getElem?_drop] at hj))
   (fun j hj=>hsp _ (by rw [hdl] at hj;omega)) (fun j hj=>hfz _ (by rw [hdl] at hj;omega)) (fun v hv=>h1c v (List.mem_of_mem_drop hv))
 obtain ⟨W1,hW1⟩:∃ W1,W1=w.drew.setCells b ((i+1) * 2) (cs.drop (i * 2)):=⟨_,rfl⟩
 have hsp1:∀ k,k < (n+1) * 2→(W1.cell? ⟨b,k,none⟩).isSome=true:=fun k hk=>by
  rw [hW1]
  exact isSome_setCells b (cs.drop (i * 2)) ((i+1) * 2) w.drew (fun j hj=>hsp _ (by rw [hdl] at hj;omega)) k (hsp k hk)
 have hcp2:∀ (W:World),(∀ x,W.cell? x=W1.cell? x)→(∀ x,W.frozen? x=W1.frozen? x)→∀ ty dc,(Builtin.copy_ #[29,29] ty #[.slice (some ⟨b,i * 2,none⟩) (n+1 - i) dc,.slice (some ⟨vb,0,none⟩) 1 vc]).run Tryz.prog W=.ok (goInt (Nat.min 1 (n+1 - i))) (W.setCells b (i * 2) vs):=fun W hWc hWf ty dc =>
  zjp W _ _ ty 34 2 b (i * 2) (n+1 - i) dc ⟨vb,0,none⟩ 1 vc vs Tryz.underlying29 hsz (by rw [hvl];simp only [Nat.min_def];split <;> omega)
   (fun j v hj=>by
    rw [Addr.add_lit,hWc,hW1,World.cell?_setCells_out b _ _ _ _ (fun h _=>absurd h hvb),Nat.zero_add]
    exact hvs j v hj)
   (fun j hj=>by rw [hWc];exact hsp1 _ (by omega)) (fun j hj=>by rw [hWf,hW1,World.frozen?_setCells];exact hfz _ (by omega)) h1v
 rw [← hW1] at hcp1
 go_enter Tryz.func42,Tryz.ntmps42
 go_wp2_with (simp only [hov])
 go_region_law_o (refine step_copy_runI rfl _ _ 29 29 rfl _ _ (by simp [Act.eval,Act.put]) (by simp [Act.eval,Act.put]) (hcp1 _ _ _) ?_)
 go_wp2_with (at_builtin;refine wpList_copy_runI _ rfl _ _ 29 29 rfl _ _ rfl rfl (hcp2 _ (fun _=>rfl) (fun _=>rfl) _ _) ?_)
 go_ret
 first | exact ⟨rfl,rfl⟩ | exact ⟨rfl,by rw [hW1]⟩

abbrev zS:Value:=.agg #[.slice none 0 0,.slice none 0 0]

set_option maxHeartbeats 4000000 in
set_option maxRecDepth 100000 in
theorem ins_end_room (b n c vb vc:Nat) (vs:List Value) (w:World) (hroom:n+1≤c) (hn1:n≤3000000)
 (hvl:vs.length=2) (hsp:∀ j,j < 2→(w.cell? ⟨b,0+n * 2+j,none⟩).isSome=true) (hfz:∀ j,j < 2→w.frozen? ⟨b,0+n * 2+j,none⟩=false)
 (hvs:∀ j v,vs[j]?=some v→w.cell? ⟨vb,j,none⟩=some v) (h1v:∀ v∈vs,v.oneCell'=true) :
 Calls Tryz.prog 42 #[.slice (some ⟨b,0,none⟩) n c,.int .i64 n,.slice (some ⟨vb,0,none⟩) 1 vc] w fun e w' =>
  e=.returned (.slice (some ⟨b,0,none⟩) (n+1) c)∧w'=w.setCells b (0+n * 2) vs:=by
 have u29:=run_underlying Tryz.underlying29
 have mixed:Tryz.prog.follows .mixedOrders=true:=by kernel_rfl
 obtain ⟨i0,hi0,hz0,hzs,hzb⟩:=info_parts info34
 have hsrc:Src Tryz.prog i0.size 29 (.slice (some ⟨vb,0,none⟩) 1 vc) 1 vs w:=by
  rw [hzs]
  exact Src.ofSlice w Tryz.underlying29 ⟨vb,0,none⟩ 1 vc vs (by omega) (fun j u hj=>by rw [Addr.add_lit,Nat.zero_add];exact hvs j u hj) h1v
 have hrun:∀ ty,(Builtin.append_ #[29,29] ty #[.slice (some ⟨b,0,none⟩) n c,.slice (some ⟨vb,0,none⟩) 1 vc]).run Tryz.prog w=.ok (.slice (some ⟨b,0,none⟩) (n+1) c) (w.setCells b (0+n * 2) vs):=fun ty=>by
  have:=run_append_room_src (P:=Tryz.prog) w 29 29 ty 34 i0 Tryz.underlying29 hi0 b 0 n c _ 1 vs hsrc hroom (by rw [hvl,hzs];exact hsp) (by rw [hvl,hzs];exact hfz)
  rwa [hzs] at this
 clear hsrc hi0 hz0 hzs hzb
 go_enter Tryz.func42,Tryz.ntmps42
 go_wp2_with (at_builtin;refine Lib.wpList_append_run _ rfl _ _ _ _ rfl _ _ rfl rfl _ _ (hrun _) ?_)
 all_goals (go_ret;exact ⟨rfl,by rw [Nat.zero_add]⟩)

set_option maxHeartbeats 4000000 in
set_option maxRecDepth 100000 in
theorem ins_end_grow (base:Option Addr) (n c vb vc:Nat) (cs vs:List Value) (w:World) (hnc:n≤c) (hroom:c < n+1) (hn1:n≤3000000)
 (hcl:cs.length=n * 2) (hvl:vs.length=2) (hnil:base=none→n=0)
 (hcs:∀ a,base=some a→∀ j v,cs[j]?=some v→w.cell? (a.add j)=some v)
 (hvs:∀ j v,vs[j]?=some v→w.cell? ⟨vb,j,none⟩=some v) (h1v:∀ v∈vs,v.oneCell'=true) :
 Calls Tryz.prog 42 #[.slice base n c,.int .i64 n,.slice (some ⟨vb,0,none⟩) 1 vc] w fun e w' =>
  e=.returned (.slice (some ⟨w.heap.size,0,none⟩) (n+1) (grownCap w (n+1) c 34)) ∧
  w'=w.drew.alloc (.cells ((cs ++ vs).toArray ++ Builtin.zeroCells zS.cells (grownCap w (n+1) c 34 - (n+1))) 34):=by
 have u29:=run_underlying Tryz.underlying29
 have mixed:Tryz.prog.follows .mixedOrders=true:=by kernel_rfl
 obtain ⟨i0,hi0,hz0,hzs,hzb⟩:=info_parts info34
 have hsrc:Src Tryz.prog i0.size 29 (.slice (some ⟨vb,0,none⟩) 1 vc) 1 vs w:=by
  rw [hzs]
  exact Src.ofSlice w Tryz.underlying29 ⟨vb,0,none⟩ 1 vc vs (by omega) (fun j u hj=>by rw [Addr.add_lit,Nat.zero_add];exact hvs j u hj) h1v
 have hold:(Builtin.firstCells i0.size n (.slice base n c)).run Tryz.prog w.drew=.ok cs.toArray w.drew:=by
  rw [hzs]
  cases base with
  | none =>
   have h0:=hnil rfl
   subst h0
   have hcs0:cs=[]:=List.length_eq_zero_iff.1 (by omega)
   rw [hcs0]
   exact run_firstCells_none w.drew 2 0 0 c
  | some a=>exact run_firstCells_some w.drew 2 n a n c cs (by omega) (fun j v hj=>hcs a rfl j v hj)
 have hrun:∀ ty,(Builtin.append_ #[29,29] ty #[.slice base n c,.slice (some ⟨vb,0,none⟩) 1 vc]).run Tryz.prog w=.ok (.slice (some ⟨w.heap.size,0,none⟩) (n+1) (grownCap w (n+1) c 34)) (w.drew.alloc (.cells ((cs ++ vs).toArray ++ Builtin.zeroCells zS.cells (grownCap w (n+1) c 34 - (n+1))) 34)):=fun ty =>
  run_append_grow_src w 29 29 ty 34 i0 _ Tryz.underlying29 hi0 hz0 base n c cs hold _ 1 vs hsrc hroom (by omega) (by rw [hzb];exact growslice_fits hroom (by omega))
 clear hsrc hold hi0 hz0 hzs hzb
 go_enter Tryz.func42,Tryz.ntmps42
 cases base with
 | none =>
  have h0:=hnil rfl
  subst h0
  go_wp2_with (at_builtin;refine Lib.wpList_append_run _ rfl _ _ _ _ rfl _ _ rfl rfl _ _ (hrun _) ?_)
  go_ret
  exact ⟨rfl,rfl⟩
 | some a =>
  obtain ⟨ab,ao,asp⟩:=a
  go_wp2_with (at_builtin;refine Lib.wpList_append_run _ rfl _ _ _ _ rfl _ _ rfl rfl _ _ (hrun _) ?_)
  all_goals (go_ret;exact ⟨rfl,rfl⟩)

set_option maxHeartbeats 4000000 in
set_option maxRecDepth 100000 in
theorem ins_grow (b n c i vb vc:Nat) (cs vs:List Value) (w:World) (hi:i < n) (hnc:n≤c) (hroom:c < n+1) (hn1:n≤3000000)
 (hcl:cs.length=n * 2) (hvl:vs.length=2)
 (hcs:∀ j v,cs[j]?=some v→w.cell? ⟨b,j,none⟩=some v)
 (hvs:∀ j v,vs[j]?=some v→w.cell? ⟨vb,j,none⟩=some v) (h1c:∀ v∈cs,v.oneCell'=true) (h1v:∀ v∈vs,v.oneCell'=true) :
 Calls Tryz.prog 42 #[.slice (some ⟨b,0,none⟩) n c,.int .i64 i,.slice (some ⟨vb,0,none⟩) 1 vc] w fun e w' =>
  e=.returned (.slice (some ⟨w.heap.size,0,none⟩) (n+1) (grownCap w (n+1) c 34)) ∧
  w'=(((w.alloc (.cells ((cs.take (i * 2)).toArray ++ Builtin.zeroCells zS.cells (n+1 - i) ++ Builtin.zeroCells zS.cells (grownCap w (n+1) c 34 - (n+1))) 34)).drew.setCells w.heap.size (i * 2) vs).drew).setCells w.heap.size ((i+1) * 2) (cs.drop (i * 2)):=by
 have u29:=run_underlying Tryz.underlying29
 have mixed:Tryz.prog.follows .mixedOrders=true:=by kernel_rfl
 obtain ⟨i0,hi0,hz0,hzs,hzb⟩:=info_parts info34
 have hz2:¬ ((i:Int)=(n:Int)):=by omega
 have hz3:(c:Int) < (n:Int)+1:=by omega
 have hsz:(Tryz.prog.info? 34).map (·.size)=some 2:=by rw [hi0];simp [hzs]
 have hbw:b < w.heap.size:=block_lt_of_cell (hcs 0 _ (List.getElem?_eq_getElem (by omega)))
 have hvw:vb < w.heap.size:=block_lt_of_cell (hvs 0 _ (List.getElem?_eq_getElem (by omega)))
 have hkk:(n:Int)+1 - (i:Int)=((n+1 - i:Nat):Int):=by omega
 have hik:i+(n+1 - i)=n+1:=by omega
 have htk:(cs.take (i * 2)).length=i * 2:=by rw [List.length_take];omega
 have hold:(Builtin.firstCells i0.size i (.slice (some ⟨b,0,none⟩) i c)).run Tryz.prog w.drew=.ok (cs.take (i * 2)).toArray w.drew:=by
  rw [hzs]
  exact run_firstCells_some w.drew 2 i ⟨b,0,none⟩ i c (cs.take (i * 2)) htk (fun j v hj=>by
   rw [Addr.add_lit,Nat.zero_add]
   rw [List.getElem?_take] at hj
   split at hj
   ·exact hcs j v hj
   ·cases hj)
 have hrz:∀ ty,(Builtin.append_ #[29,3] ty #[.slice (some ⟨b,0,none⟩) i c,.int .i64 ((n:Int)+1 - (i:Int))]).run Tryz.prog w =
  .ok (.slice (some ⟨w.heap.size,0,none⟩) (n+1) (grownCap w (n+1) c 34)) (w.drew.alloc (.cells ((cs.take (i * 2)).toArray ++ Builtin.zeroCells zS.cells (n+1 - i) ++ Builtin.zeroCells zS.cells (grownCap w (n+1) c 34 - (n+1))) 34)):=fun ty=>by
  have h:=Lib.run_append_grow_zeros w 29 3 ty 34 i0 _ .i64 .i64 Tryz.underlying29 Tryz.underlying3 hi0 hz0 (some ⟨b,0,none⟩) i c (cs.take (i * 2)) hold (n+1 - i) (by omega) (by omega) (by omega) (by omega) (by rw [hzb];omega) (by rw [hzb,hik];exact growslice_fits hroom (by omega))
  rw [hik] at h
  rw [hkk]
  exact h
 obtain ⟨G,hG⟩:∃ G,G=grownCap w (n+1) c 34:=⟨_,rfl⟩
 obtain ⟨ROW,hROW⟩:∃ ROW:Array Value,ROW=(cs.take (i * 2)).toArray ++ Builtin.zeroCells zS.cells (n+1 - i) ++ Builtin.zeroCells zS.cells (G - (n+1)):=⟨_,rfl⟩
 rw [← hG] at hrz ⊢
 rw [← hROW] at hrz ⊢
 have hRl:(n+1) * 2≤ROW.size:=by
  rw [hROW]
  simp [Builtin.zeroCells,Value.cells,htk]
  omega
 obtain ⟨W1,hW1⟩:∃ W1,W1=w.drew.alloc (.cells ROW 34):=⟨_,rfl⟩
 rw [← hW1] at hrz
 have hN:∀ j,j < (n+1) * 2→(W1.cell? ⟨w.heap.size,j,none⟩).isSome=true:=fun j hj=>by
  rw [hW1,World.cell?_alloc_at (w:=w.drew) ROW _ w.heap.size j rfl,Array.getElem?_eq_getElem (by omega)];rfl
 have hNf:∀ j,W1.frozen? ⟨w.heap.size,j,none⟩=false:=fun j=>by rw [hW1];exact World.frozen?_alloc_at (w:=w.drew) ROW _ w.heap.size j rfl
 have hOb:∀ j v,w.cell? ⟨b,j,none⟩=some v→W1.cell? ⟨b,j,none⟩=some v:=fun j v h=>by rw [hW1,World.cell?_alloc_past (w:=w.drew) _ b j hbw];exact h
 have hOv:∀ j v,w.cell? ⟨vb,j,none⟩=some v→W1.cell? ⟨vb,j,none⟩=some v:=fun j v h=>by rw [hW1,World.cell?_alloc_past (w:=w.drew) _ vb j hvw];exact h
 have hcpA:∀ (W:World),(∀ x,W.cell? x=W1.cell? x)→(∀ x,W.frozen? x=W1.frozen? x)→∀ ty dc,(Builtin.copy_ #[29,29] ty #[.slice (some ⟨w.heap.size,i * 2,none⟩) (n+1 - i) dc,.slice (some ⟨vb,0,none⟩) 1 vc]).run Tryz.prog W=.ok (goInt (Nat.min 1 (n+1 - i))) (W.setCells w.heap.size (i * 2) vs):=fun W hWc hWf ty dc =>
  zjp W _ _ ty 34 2 w.heap.size (i * 2) (n+1 - i) dc ⟨vb,0,none⟩ 1 vc vs Tryz.underlying29 hsz (by rw [hvl];simp only [Nat.min_def];split <;> omega)
   (fun j v hj=>by rw [Addr.add_lit,hWc,Nat.zero_add];exact hOv _ v (hvs j v hj))
   (fun j hj=>by rw [hWc];exact hN _ (by omega)) (fun j hj=>by rw [hWf];exact hNf _) h1v
 have hGn:n+1≤G:=by rw [hG];exact grownCap_ge w _ _ _
 have hG63:G≤9223372036854775807:=by
  have:=grownCap_le_maxLen w (n+1) c 34 (by unfold maxLen;omega)
  rw [← hG] at this
  unfold maxLen at this
  omega
 have hGi:¬ (G=i):=by omega
 have hGim:¬ (G=i+1):=by omega
 have hci:¬ (c=i):=by omega
 have hbN:b≠w.heap.size:=by omega
 have hdl:(cs.drop (i * 2)).length=(n - i) * 2:=by rw [List.length_drop,hcl];omega
 have hcpB:∀ (W:World),(∀ x,W.cell? x=(W1.setCells w.heap.size (i * 2) vs).cell? x)→(∀ x,W.frozen? x=(W1.setCells w.heap.size (i * 2) vs).frozen? x)→∀ ty dc sc,(Builtin.copy_ #[29,29] ty #[.slice (some ⟨w.heap.size,(i+1) * 2,none⟩) (n - i) dc,.slice (some ⟨b,i * 2,none⟩) (n - i) sc]).run Tryz.prog W=.ok (goInt (Nat.min (n - i) (n - i))) (W.setCells w.heap.size ((i+1) * 2) (cs.drop (i * 2))):=fun W hWc hWf ty dc sc =>
  zjp W _ _ ty 34 2 w.heap.size ((i+1) * 2) (n - i) dc ⟨b,i * 2,none⟩ (n - i) sc (cs.drop (i * 2)) Tryz.underlying29 hsz (by rw [hdl];simp only [Nat.min_def];split <;> omega)
   (fun j v hj=>by
    rw [Addr.add_lit,hWc,World.cell?_setCells_out _ _ _ _ _ (fun h _=>absurd h hbN)]
    exact hOb _ v (hcs (i * 2+j) v (by rwa [List.getElem?_drop] at hj)))
   (fun j hj=>by rw [hWc];exact isSome_setCells _ _ _ _ (fun t ht=>hN _ (by omega)) _ (hN _ (by rw [hdl] at hj;omega)))
   (fun j hj=>by rw [hWf,World.frozen?_setCells];exact hNf _) (fun v hv=>h1c v (List.mem_of_mem_drop hv))
 subst hW1
 have hE1:∀ x,((w.alloc (.cells ROW 34)).drew).cell? x=(w.drew.alloc (.cells ROW 34)).cell? x:=fun x=>rfl
 have hE2:∀ x,((w.alloc (.cells ROW 34)).drew).frozen? x=(w.drew.alloc (.cells ROW 34)).frozen? x:=fun x=>rfl
 have hF1:∀ x,(((w.alloc (.cells ROW 34)).drew.setCells w.heap.size (i * 2) vs).drew).cell? x=((w.drew.alloc (.cells ROW 34)).setCells w.heap.size (i * 2) vs).cell? x:=fun x=>rfl
 have hF2:∀ x,(((w.alloc (.cells ROW 34)).drew.setCells w.heap.size (i * 2) vs).drew).frozen? x=((w.drew.alloc (.cells ROW 34)).setCells w.heap.size (i * 2) vs).frozen? x:=fun x=>rfl
 have hw1:IntKind.i64.wrap ((i:Int)+1)=(i:Int)+1:=by rw [IntKind.wrap_i64];omega
 have hb1:(0:Int)≤(i:Int)+1:=by omega
 have hin:i≤n:=by omega
 have htn:((i:Int)+1).toNat=i+1:=by omega
 have hb3:(i:Int)≤(n:Int):=by omega
 clear hkk hik hold hROW hG hRl
 go_enter Tryz.func42,Tryz.ntmps42
 go_wp2_with (first
  | (at_builtin;refine Lib.wpList_append_run _ rfl _ _ _ _ rfl _ _ rfl rfl _ _ (hrz _) ?_)
  | (at_builtin;refine wpList_copy_runI _ rfl _ _ 29 29 rfl _ _ rfl rfl (hcpA _ hE1 hE2 _ _) ?_)
  | (at_builtin;refine wpList_copy_runI _ rfl _ _ 29 29 rfl _ _ rfl rfl (hcpB _ (fun _=>rfl) (fun _=>rfl) _ _ _) ?_))
 go_region_law_o (refine step_copy_runI rfl _ _ 29 29 rfl (.slice (some ⟨w.heap.size,(i+1) * 2,none⟩) (n - i) (G - (i+1))) (.slice (some ⟨b,i * 2,none⟩) (n - i) (c - i)) (by simp [Act.eval,Act.put]) (by simp [Act.eval,Act.put]) (hcpB _ hF1 hF2 3 (G - (i+1)) (c - i)) ?_)
 go_wp2
 go_ret
 exact ⟨rfl,rfl⟩
end Go.Proofs

