import Derived.Test.YtfcfpdcjepobpaaGreatEvA11
import Derived.Test.YtfcfpdcjepobpaaGreatEvA7
import Derived.Test.YtfcfpdcjepobpaaGreatEvA10
import Derived.Test.YtfcfpdcjepobpaaGreatProg
import Derived.KernelRfl
import Derived.WalkKit
import Derived.Deep.LoopGhost
import Derived.Lib.Walk
import Derived.Lib.SliceRun
import Derived.Laws.OwnMore
import Derived.Lib.AppendZerosOnto
import Derived.Test.YtfcfpdcjepobpaaGreatEvA8
import Derived.Deep.RegionLaw
import Derived.Shelf.RegionOpenPlain
import Derived.Lib.SlicesDelete
import Derived.Laws.Rows
import Derived.Laws.IdiomStrings
import Derived.Laws.BytesArg
set_option linter.unusedSimpArgs false
set_option linter.unusedVariables false
set_option linter.unnecessarySimpa false
noncomputable section
namespace Go.Ev
structure Emb (s t:TStructure) (f:Nat→Nat):Prop where
 rng:∀ i,i < s.nodes.length→f i < t.nodes.length
 node:∀ i,i < s.nodes.length→nodeW (s.nodes.getD i zN) (t.nodes.getD (f i) zN)=true
 next:∀ i k,i < s.nodes.length→k < s.nodes.length→wB (nextV s i k) (nextV t (f i) (f k))=true
 many:∀ i k,i < k→k < s.nodes.length→f i=f k→(t.nodes.getD (f k) zN).many=1
 onto:∀ j,j < t.nodes.length→∃ i,i < s.nodes.length∧f i=j
def mapTo (f:Nat→Nat) (k:Nat):List Int:=(List.range k).map fun i=>(f i:Int)
theorem znk (f:Nat→Nat) (k:Nat):(mapTo f k).length=k:=by simp [mapTo]
theorem mapTo_get (f:Nat→Nat) {k i:Nat} (h:i < k):(mapTo f k).getD i 0=(f i:Int):=by simp [mapTo,List.getD,h]
theorem zoq (f:Nat→Nat) (k:Nat):mapTo f (k+1)=mapTo f k ++ [(f k:Int)]:=by simp [mapTo,List.range_succ]
theorem zor (f:Nat→Nat) (k:Nat):lastI (mapTo f (k+1))=(f k:Int):=by
 unfold lastI
 rw [znk,Nat.add_sub_cancel,mapTo_get f (Nat.lt_succ_self k)]
theorem Emb.fit {s t:TStructure} {f:Nat→Nat} (h:Emb s t f) {k:Nat} (hk:k < s.nodes.length):fitB s t (mapTo f (k+1))=true:=by
 unfold fitB
 rw [zor,znk,Nat.add_sub_cancel,Int.toNat_natCast,h.node k hk,Bool.true_and,List.all_eq_true]
 intro j hj
 have hj:=List.mem_range.1 hj
 unfold roundB
 rw [zor,znk,mapTo_get f hj,show ((k+1:Nat):Int) - 1=(k:Int) by omega,h.next k j hk (by omega),h.next j k (by omega) hk,Bool.true_and,Bool.true_and,Bool.not_eq_true']
 by_cases h1:j+1 < k+1
 ·by_cases h2:f j=f k
  ·rw [Int.toNat_natCast,h.many j k (by omega) hk h2]
   simp
  ·rw [decide_eq_false (p:=((f j:Int)=(f k:Int))) (by omega)]
   simp
 ·rw [decide_eq_false h1]
  rfl
theorem Emb.find {s t:TStructure} {f:Nat→Nat} (h:Emb s t f):∀ m k,k+m=s.nodes.length→(findF s t m (mapTo f k)).2=true
 | 0,k,hk=>by
  show ontoB t (mapTo f k)=true
  unfold ontoB
  rw [List.all_eq_true]
  intro j hj
  obtain ⟨i,hi,rfl⟩:=h.onto j (List.mem_range.1 hj)
  rw [decide_eq_true_eq]
  exact List.mem_map.2 ⟨i,List.mem_range.2 (by omega),rfl⟩
 | m+1,k,hk=>by
  have hlt:k < s.nodes.length:=by omega
  have ih:=h.find m (k+1) (by omega)
  rw [zoq] at ih
  unfold findF
  cases hf:(List.range t.nodes.length).findSome? (tryJ s t (findF s t m) (mapTo f k)) with
  | none =>
   exfalso
   rw [List.findSome?_eq_none_iff] at hf
   have:=hf (f k) (List.mem_range.2 (h.rng k hlt))
   unfold tryJ at this
   have hfit:=h.fit hlt
   rw [zoq] at hfit
   rw [if_pos hfit,if_pos ih] at this
   cases this
  | some r =>
   obtain ⟨j,_,hj⟩:=List.exists_of_findSome?_eq_some hf
   unfold tryJ at hj
   split at hj
   ·split at hj
    ·cases hj;rfl
    ·cases hj
   ·cases hj
theorem Emb.is {s t:TStructure} {f:Nat→Nat} (h:Emb s t f):isEmb s t=true:=by
 unfold isEmb findE'
 have:=h.find s.nodes.length 0 (by omega)
 have e:mapTo f 0=[]:=rfl
 rw [e] at this
 simp only [this,if_true]
end Go.Ev


namespace Go.Ev
theorem zqj {α β:Type} {F:α→β→Int}:∀ {l:List α} {r:List β} {i j:Nat} {a:α} {b:β},l[i]?=some a→r[j]?=some b→(l.flatMap fun a=>r.map (F a))[i * r.length+j]?=some (F a b)
 | [],r,i,j,a,b,h,_=>by simp at h
 | x :: l,r,0,j,a,b,h,h2=>by
  simp only [List.getElem?_cons_zero,Option.some.injEq] at h
  subst h
  have hj:j < r.length:=(List.getElem?_eq_some_iff.1 h2).1
  rw [List.flatMap_cons,Nat.zero_mul,Nat.zero_add,List.getElem?_append_left (by simpa using hj),List.getElem?_map,h2]
  rfl
 | x :: l,r,i+1,j,a,b,h,h2=>by
  have hj:j < r.length:=(List.getElem?_eq_some_iff.1 h2).1
  rw [List.getElem?_cons_succ] at h
  rw [List.flatMap_cons,List.getElem?_append_right (by rw [List.length_map,Nat.add_mul,Nat.one_mul];omega),List.length_map,show (i+1) * r.length+j - r.length=i * r.length+j by rw [Nat.add_mul,Nat.one_mul];omega]
  exact zqj h h2
theorem zkq {α β:Type} (F:α→β→Int) (l:List α) (r:List β):(l.flatMap fun a=>r.map (F a)).length=l.length * r.length:=zgx _ _ _ (fun x _=>by simp)
theorem znh {s:TStructure} (hq:s.next.length=s.nodes.length * s.nodes.length) {i j:Nat} (hi:i < s.nodes.length) (hj:j < s.nodes.length):nextV s i j=s.next.getD (i * s.nodes.length+j) 0:=by
 unfold nextV
 rw [if_pos (by omega),if_pos (by omega),if_pos hq,← Int.natCast_mul,← Int.natCast_add,Int.toNat_natCast]
theorem wB_iff {a b:Int}:wB a b=true ↔ (0≤a∧a≤2)∧(0≤b∧b≤2)∧(b=1∨a=b):=by
 unfold wB
 simp only [Bool.and_eq_true,Bool.or_eq_true,decide_eq_true_eq]
theorem t3_or (b:Bool):t3 b=0∨t3 b=2:=by cases b <;> simp [t3]
structure FunS (g:TStructure):Prop where
 many:∀ i,i < g.nodes.length→(g.nodes.getD i zN).many=0
 val:∀ i j,i < g.nodes.length→j < g.nodes.length→nextV g i j=0∨nextV g i j=2
 one:∀ i j k,i < g.nodes.length→j < g.nodes.length→k < g.nodes.length→nextV g i j=2→nextV g i k=2→j=k
theorem ziv {xs:List Int} (h:truthsB xs=true) (i:Nat) (hi:i < xs.length):0≤xs.getD i 0∧xs.getD i 0≤2:=by
 unfold truthsB at h
 rw [List.all_eq_true] at h
 have hm:xs.getD i 0∈xs:=by simp [List.getD,hi]
 have:=h _ hm
 simpa using this
theorem zot {xs:List Int} (h:truthsB xs=true):listW xs xs=true:=by
 unfold listW
 rw [decide_eq_true rfl,Bool.true_and,List.all_eq_true]
 intro i hi
 have:=ziv h i (List.mem_range.1 hi)
 rw [wB_iff]
 omega
structure StrOK (s:TStructure):Prop where
 sq:s.next.length=s.nodes.length * s.nodes.length
 next:∀ i j,i < s.nodes.length→j < s.nodes.length→0≤nextV s i j∧nextV s i j≤2
 node:∀ i,i < s.nodes.length→nodeW (s.nodes.getD i zN) (s.nodes.getD i zN)=true
 many:∀ i,i < s.nodes.length→0≤(s.nodes.getD i zN).many∧(s.nodes.getD i zN).many≤1
theorem zkd {v:Int} {s:TStructure} (h:isStrB v s=true):StrOK s:=by
 unfold isStrB at h
 simp only [Bool.and_eq_true,decide_eq_true_eq,List.all_eq_true] at h
 obtain ⟨_,_,hq,ht,hn⟩:=h
 have hk:∀ i,i < s.nodes.length→nodeOkB v (s.nodes.getD i zN)=true:=fun i hi=>hn _ (by simp [List.getD,hi])
 refine ⟨hq,fun i j hi hj=>?_,fun i hi=>?_,fun i hi=>?_⟩
 ·rw [znh hq hi hj]
  refine ziv ht _ ?_
  have:=Nat.mul_le_mul_right s.nodes.length (show i+1≤s.nodes.length from hi)
  rw [Nat.add_mul,Nat.one_mul] at this
  omega
 ·have:=hk i hi
  unfold nodeOkB at this
  simp only [Bool.and_eq_true,decide_eq_true_eq] at this
  obtain ⟨_,_,h1,h2,h3,h4⟩:=this
  unfold nodeW
  simp only [Bool.and_eq_true]
  exact ⟨zot h1,zot h2,wB_iff.2 (by omega),wB_iff.2 (by omega)⟩
 ·have:=hk i hi
  unfold nodeOkB at this
  simp only [Bool.and_eq_true,decide_eq_true_eq] at this
  exact this.2.2.2.2.2
end Go.Ev


namespace Go.Ev
open Wf (wf)
open Sm (sm lg)
theorem join_val {a b v:Int} (h:joinV a b=v) (hv:v≠1):a=v∧b=v:=by
 unfold joinV at h
 split at h
 ·split at h <;> omega
 ·omega
theorem join_rng (a b:Int):0≤joinV a b∧joinV a b≤2:=by
 unfold joinV
 split
 ·split <;> omega
 ·omega
theorem rowG_val {s:TStructure} {i v:Int} (hv:v≠1):∀ {b:List Int} {acc:Int},rowG s i b acc=v→acc=v∧∀ j∈b,nextV s i j=v
 | [],acc,h=>⟨h,fun j hj=>by cases hj⟩
 | x :: b,acc,h=>by
  have h:rowG s i b (joinV acc (nextV s i x))=v:=h
  obtain ⟨h1,h2⟩:=rowG_val hv h
  obtain ⟨h3,h4⟩:=join_val h1 hv
  refine ⟨h3,fun j hj=>?_⟩
  rcases List.mem_cons.1 hj with rfl | hj
  ·exact h4
  ·exact h2 j hj
theorem nextG_val {s:TStructure} {a b:List Int} {v:Int} (h:nextG s a b=v) (hv:v≠1):∀ i∈a,∀ j∈b,nextV s i j=v:=by
 unfold nextG at h
 generalize nextV s (a.getD 0 0) (b.getD 0 0)=acc at h
 have key:∀ (a:List Int) (acc:Int),a.foldl (fun acc i=>rowG s i b acc) acc=v→acc=v∧∀ i∈a,∀ j∈b,nextV s i j=v:=by
  intro a
  induction a with
  | nil=>intro acc h;exact ⟨h,fun i hi=>by cases hi⟩
  | cons x a ih =>
   intro acc h
   obtain ⟨h1,h2⟩:=ih _ h
   obtain ⟨h3,h4⟩:=rowG_val hv h1
   refine ⟨h3,fun i hi=>?_⟩
   rcases List.mem_cons.1 hi with rfl | hi
   ·exact h4
   ·exact h2 i hi
 exact (key a acc h).2
theorem rowG_rng {s:TStructure} {i:Int}:∀ {b:List Int} {acc:Int},0≤acc∧acc≤2→0≤rowG s i b acc∧rowG s i b acc≤2
 | [],acc,h=>h
 | x :: b,acc,h=>rowG_rng (b:=b) (acc:=joinV acc (nextV s i x)) (join_rng _ _)
theorem nextG_rng {s:TStructure} {a b:List Int} (h:0≤nextV s (a.getD 0 0) (b.getD 0 0)∧nextV s (a.getD 0 0) (b.getD 0 0)≤2):0≤nextG s a b∧nextG s a b≤2:=by
 unfold nextG
 generalize nextV s (a.getD 0 0) (b.getD 0 0)=acc at h
 induction a generalizing acc with
 | nil=>exact h
 | cons x a ih=>exact ih _ (rowG_rng h)
theorem app_inj {A B x y:ByteArray} (h:A ++ x=B ++ y) (hs:x.size=y.size):A=B∧x=y:=by
 have h1:=congrArg (fun b:ByteArray=>b.data.toList) h
 simp only [ByteArray.data_append,Array.toList_append] at h1
 have hl:x.data.toList.length=y.data.toList.length:=by rw [Array.length_toList,Array.length_toList];exact hs
 obtain ⟨h2,h3⟩:=List.append_inj' h1 hl
 refine ⟨?_,?_⟩
 ·obtain ⟨⟨a⟩⟩:=A
  obtain ⟨⟨b⟩⟩:=B
  simp only at h2
  rw [h2]
 ·obtain ⟨⟨a⟩⟩:=x
  obtain ⟨⟨b⟩⟩:=y
  simp only at h3
  rw [h3]
theorem txt_one {a:Int} (h:0≤a∧a≤2):(txtF a).size=1:=by
 have:a=0∨a=1∨a=2:=by omega
 rcases this with rfl | rfl | rfl <;> rfl
theorem txt_inj {a b:Int} (ha:0≤a∧a≤2) (hb:0≤b∧b≤2) (h:txtF a=txtF b):a=b:=by
 have h1:a=0∨a=1∨a=2:=by omega
 have h2:b=0∨b=1∨b=2:=by omega
 rcases h1 with rfl | rfl | rfl <;> rcases h2 with rfl | rfl | rfl <;> first | rfl | exact absurd h (by decide)
theorem nameK_inj {s:TStructure} {i j:Int}:∀ n:Nat,(∀ k:Nat,k < n→(0≤predV s k i∧predV s k i≤2)∧(0≤predV s k j∧predV s k j≤2))→nameK s i n=nameK s j n→∀ k:Nat,k < n→predV s k i=predV s k j
 | 0,_,_,k,hk=>absurd hk (Nat.not_lt_zero _)
 | n+1,h,he,k,hk=>by
  obtain ⟨hn1,hn2⟩:=h n (by omega)
  rw [nameK,nameK] at he
  obtain ⟨h1,h2⟩:=app_inj he (by rw [txt_one hn1,txt_one hn2])
  by_cases hkn:k=n
  ·subst hkn
   exact txt_inj hn1 hn2 h2
  ·exact nameK_inj n (fun k hk=>h k (by omega)) h1 k (by omega)
structure Full (s:TStructure):Prop where
 b:okB s
 st:isStrB (varsF s) s=true
theorem zqm {s:TStructure} (hs:shortS s) (h:isStrB (varsF s) s=true) (h0:¬ s.nodes.length=0):Full s:=⟨okB_of hs h h0,h⟩
theorem Full.node {s:TStructure} (h:Full s) {y:TNode} (hy:y∈s.nodes):nodeOkB (varsF s) y=true:=by
 have:=h.st
 unfold isStrB at this
 simp only [Bool.and_eq_true,decide_eq_true_eq,List.all_eq_true] at this
 exact this.2.2.2.2 y hy
theorem Full.nodeI {s:TStructure} (h:Full s) {i:Int} (hi:0≤i∧i < (s.nodes.length:Int)):nodeOkB (varsF s) (s.nodes.getD i.toNat zN)=true:=h.node (zfr hi)
theorem ziy {v:Int} {y:TNode} (h:nodeOkB v y=true):(y.vars.length:Int)=v∧(y.reach.length:Int)=v∧truthsB y.vars=true∧truthsB y.reach=true∧(0≤y.shared∧y.shared≤2)∧(0≤y.many∧y.many≤1):=by
 unfold nodeOkB at h
 simpa only [Bool.and_eq_true,decide_eq_true_eq] using h
theorem Full.pred {s:TStructure} (h:Full s) {i:Int} (hi:0≤i∧i < (s.nodes.length:Int)) {k:Nat} (hk:(k:Int)≤2 * varsF s):0≤predV s k i∧predV s k i≤2:=by
 obtain ⟨h1,h2,h3,h4,h5,_⟩:=ziy (h.nodeI hi)
 unfold predV
 split
 ·exact ziv h3 _ (by omega)
 ·split
  ·exact ziv h4 _ (by omega)
  ·exact h5
theorem list_eq {a b:List Int} {v:Int} (ha:(a.length:Int)=v) (hb:(b.length:Int)=v) (h:∀ k:Nat,(k:Int) < v→a.getD k 0=b.getD k 0):a=b:=by
 apply List.ext_getElem (by omega)
 intro k h1 h2
 have:=h k (by omega)
 simpa [List.getD,h1,h2] using this
theorem same_name {s:TStructure} (h:Full s) {i j:Int} (hi:0≤i∧i < (s.nodes.length:Int)) (hj:0≤j∧j < (s.nodes.length:Int)) (he:nameF s i=nameF s j) :
 (s.nodes.getD i.toNat zN).vars=(s.nodes.getD j.toNat zN).vars∧(s.nodes.getD i.toNat zN).reach=(s.nodes.getD j.toNat zN).reach∧(s.nodes.getD i.toNat zN).shared=(s.nodes.getD j.toNat zN).shared:=by
 have hv:=h.b.v
 have hp:=nameK_inj (2 * varsF s+1).toNat (fun k hk=>⟨h.pred hi (by omega),h.pred hj (by omega)⟩) he
 obtain ⟨a1,a2,_⟩:=ziy (h.nodeI hi)
 obtain ⟨b1,b2,_⟩:=ziy (h.nodeI hj)
 refine ⟨list_eq a1 b1 fun k hk=>?_,list_eq a2 b2 fun k hk=>?_,?_⟩
 ·have:=hp k (by omega)
  unfold predV at this
  have c1:(k:Int)≤varsF s - 1:=by omega
  simp only [if_pos c1,Int.toNat_natCast] at this
  exact this
 ·have:=hp ((varsF s).toNat+k) (by omega)
  unfold predV at this
  have c1:¬ (((varsF s).toNat+k:Nat):Int)≤varsF s - 1:=by omega
  have c2:(((varsF s).toNat+k:Nat):Int)≤2 * varsF s - 1:=by omega
  have c3:(((varsF s).toNat+k:Nat):Int) - varsF s=(k:Int):=by omega
  simp only [if_neg c1,if_pos c2,c3,Int.toNat_natCast] at this
  exact this
 ·have:=hp (2 * varsF s).toNat (by omega)
  unfold predV at this
  have c1:¬ (((2 * varsF s).toNat:Nat):Int)≤varsF s - 1:=by omega
  have c2:¬ (((2 * varsF s).toNat:Nat):Int)≤2 * varsF s - 1:=by omega
  simp only [if_neg c1,if_neg c2] at this
  exact this
theorem zpt {k:ByteArray} {z:Int}:∀ {l:List ByteArray} {i:Int},z∈posN k l i→i≤z∧l[(z - i).toNat]?=some k
 | [],i,h=>by cases h
 | y :: l,i,h=>by
  have hr:z∈posN k l (i+1)→i≤z∧(y :: l)[(z - i).toNat]?=some k:=fun h=>by
   obtain ⟨h1,h2⟩:=zpt h
   refine ⟨by omega,?_⟩
   rw [show (z - i).toNat=(z - (i+1)).toNat+1 by omega,List.getElem?_cons_succ]
   exact h2
  rw [posN] at h
  split at h
  ·rename_i hk
   rcases List.mem_cons.1 h with rfl | h
   ·rw [Int.sub_self]
    exact ⟨Int.le_refl _,by simp [hk]⟩
   ·exact hr h
  ·exact hr h
theorem posN_in {k:ByteArray}:∀ {l:List ByteArray} {i:Int} {m:Nat},l[m]?=some k→i+m∈posN k l i
 | [],i,m,h=>by simp at h
 | y :: l,i,0,h=>by
  simp only [List.getElem?_cons_zero,Option.some.injEq] at h
  rw [posN,if_pos h]
  simp
 | y :: l,i,m+1,h=>by
  rw [List.getElem?_cons_succ] at h
  have:=posN_in (i:=i+1) h
  rw [posN]
  have e:i+((m+1:Nat):Int)=i+1+m:=by omega
  rw [e]
  split
  ·exact List.mem_cons_of_mem _ this
  ·exact this
def keys (s:TStructure):List ByteArray:=sortN (dstN (namesL s s.nodes.length))
theorem gs_key {s:TStructure}:gsF s=(keys s).map fun k=>posN k (namesL s s.nodes.length) 0:=rfl
theorem gs_apart {s:TStructure} {i j:Nat} {a b:List Int} {z:Int} (ha:(gsF s)[i]?=some a) (hb:(gsF s)[j]?=some b) (hz:z∈a) (hz2:z∈b):i=j:=by
 rw [gs_key,List.getElem?_map,Option.map_eq_some_iff] at ha hb
 obtain ⟨k,hk,rfl⟩:=ha
 obtain ⟨k2,hk2,rfl⟩:=hb
 have h1:=(zpt hz).2
 have h2:=(zpt hz2).2
 rw [h1] at h2
 cases h2
 obtain ⟨hi,hik⟩:=List.getElem?_eq_some_iff.1 hk
 obtain ⟨hj,hjk⟩:=List.getElem?_eq_some_iff.1 hk2
 exact (List.getElem_inj (zhu _)).1 (hik.trans hjk.symm)
theorem zik (s:TStructure) {n i:Nat} (h:i < n):(namesL s n)[i]?=some (nameF s (i:Int)):=by simp [namesL,h]
theorem gs_name {s:TStructure} {j:Nat} {g:List Int} (hg:(gsF s)[j]?=some g) {z:Int} (hz:z∈g):(keys s)[j]?=some (nameF s z)∧0≤z∧z < (s.nodes.length:Int):=by
 rw [gs_key,List.getElem?_map,Option.map_eq_some_iff] at hg
 obtain ⟨k,hk,rfl⟩:=hg
 have h1:=zpt hz
 have h2:=zlk hz
 rw [ziz] at h2
 have hn:=zik s (n:=s.nodes.length) (i:=(z - 0).toNat) (by omega)
 rw [h1.2,show (((z - 0).toNat:Nat):Int)=z by omega] at hn
 cases hn
 exact ⟨hk,h1.1,by omega⟩
theorem gs_of (s:TStructure) {i:Nat} (hi:i < s.nodes.length):∃ (j:Nat) (g:List Int),(gsF s)[j]?=some g∧(i:Int)∈g:=by
 have hn:=zik s hi
 have hm:=(zhk (namesL s s.nodes.length) (nameF s (i:Int))).2 (List.mem_of_getElem? hn)
 obtain ⟨j,hj,he⟩:=List.mem_iff_getElem.1 hm
 refine ⟨j,posN (nameF s (i:Int)) (namesL s s.nodes.length) 0,?_,?_⟩
 ·rw [gs_key,List.getElem?_map]
  have:(keys s)[j]?=some (nameF s (i:Int)):=by
   unfold keys
   rw [List.getElem?_eq_getElem hj,he]
  rw [this]
  rfl
 ·have:=posN_in (i:=0) hn
  simpa using this
theorem blur_next {s:TStructure} {gs:List (List Int)} {i j:Nat} {a b:List Int} (ha:gs[i]?=some a) (hb:gs[j]?=some b):nextV (blurG s gs) i j=nextG s a b:=by
 have hi:=(List.getElem?_eq_some_iff.1 ha).1
 have hj:=(List.getElem?_eq_some_iff.1 hb).1
 have hl:(blurG s gs).nodes.length=gs.length:=by simp [blurG]
 rw [znh (by rw [hl];exact zkq _ _ _) (by rw [hl];exact hi) (by rw [hl];exact hj),hl,List.getD_eq_getElem?_getD]
 show (gs.flatMap fun a=>gs.map (nextG s a))[_]?.getD 0=_
 rw [zqj ha hb]
 rfl
theorem zny {s:TStructure} {gs:List (List Int)} {i:Nat} {a:List Int} (ha:gs[i]?=some a):(blurG s gs).nodes.getD i zN=nodeG s a:=by
 unfold blurG
 simp [List.getD,ha]
theorem zgf (s:TStructure) (gs:List (List Int)):(blurG s gs).nodes.length=gs.length:=by simp [blurG]
theorem many_one {s:TStructure} {g:List Int} {i k:Int} (hi:i∈g) (hk:k∈g) (h:i≠k):manyG s g=1:=by
 unfold manyG
 rw [if_pos]
 rcases g with _ | ⟨x,_ | ⟨y,g⟩⟩
 ·cases hi
 ·simp only [List.mem_singleton] at hi hk
  exact absurd (hi.trans hk.symm) h
 ·simp
theorem emb_blur {s:TStructure} (h:Full s):∃ f,Emb s (blurG s (gsF s)) f:=by
 have hG:=zjk h.b
 have hS:=zkd h.st
 have hex:∀ i:Nat,∃ j:Nat,i < s.nodes.length→∃ g,(gsF s)[j]?=some g∧(i:Int)∈g:=fun i=>by
  by_cases hi:i < s.nodes.length
  ·obtain ⟨j,g,h1,h2⟩:=gs_of s hi
   exact ⟨j,fun _=>⟨g,h1,h2⟩⟩
  ·exact ⟨0,fun h=>absurd h hi⟩
 have hf:∀ i,i < s.nodes.length→∃ g,(gsF s)[Classical.choose (hex i)]?=some g∧(i:Int)∈g:=fun i=>Classical.choose_spec (hex i)
 refine ⟨fun i=>Classical.choose (hex i),fun i hi=>?_,fun i hi=>?_,fun i k hi hk=>?_,fun i k hik hk he=>?_,fun j hj=>?_⟩
 ·obtain ⟨g,h1,_⟩:=hf i hi
  rw [zgf]
  exact (List.getElem?_eq_some_iff.1 h1).1
 ·obtain ⟨g,h1,h2⟩:=hf i hi
  rw [zny h1]
  have g0:0 < g.length:=List.length_pos_of_mem h2
  have hz:=zet g0 (0:Int)
  have n1:=gs_name h1 h2
  have n2:=gs_name h1 hz
  have hne:nameF s (i:Int)=nameF s (g.getD 0 0):=Option.some.inj (n1.1.symm.trans n2.1)
  obtain ⟨e1,e2,e3⟩:=same_name h n1.2 n2.2 hne
  rw [Int.toNat_natCast] at e1 e2 e3
  have hself:=hS.node i hi
  have hm:=hS.many i hi
  unfold nodeW at hself ⊢
  simp only [Bool.and_eq_true] at hself ⊢
  unfold nodeG
  simp only
  rw [← e1,← e2,← e3]
  refine ⟨hself.1,hself.2.1,hself.2.2.1,?_⟩
  by_cases hi0:(i:Int)=g.getD 0 0
  ·unfold manyG
   rw [← hi0,Int.toNat_natCast]
   rw [wB_iff]
   split
   ·omega
   ·split <;> omega
  ·rw [many_one h2 hz hi0,wB_iff]
   omega
 ·obtain ⟨g,h1,h2⟩:=hf i hi
  obtain ⟨q,h3,h4⟩:=hf k hk
  rw [blur_next h1 h3]
  have hv:=hS.next i k hi hk
  rw [wB_iff]
  by_cases hn:nextG s g q=1
  ·omega
  ·have:=nextG_val rfl hn i h2 k h4
   omega
 ·obtain ⟨g,h1,h2⟩:=hf i (by omega)
  obtain ⟨q,h3,h4⟩:=hf k hk
  rw [zny h3]
  have he:Classical.choose (hex i)=Classical.choose (hex k):=he
  rw [he] at h1
  rw [h1] at h3
  cases h3
  exact many_one h2 h4 (by omega)
 ·rw [zgf] at hj
  obtain ⟨g0,_,g2⟩:=hG.e _ (List.getElem_mem hj)
  have hz:=zet (List.length_pos_iff.2 g0) (0:Int)
  have hr:=g2 _ hz
  obtain ⟨zn,hzn⟩:=Int.eq_ofNat_of_zero_le hr.1
  have hzn':(gsF s)[j].getD 0 0=(zn:Int):=hzn
  have hlt:zn < s.nodes.length:=by omega
  obtain ⟨g,h1,h2⟩:=hf zn hlt
  refine ⟨zn,hlt,gs_apart (z:=(zn:Int)) h1 (List.getElem?_eq_getElem hj) h2 ?_⟩
  rw [← hzn']
  exact hz
theorem dstN_self:∀ {l:List ByteArray},l.Nodup→dstN l=l:=by
 suffices h:∀ (l a:List ByteArray),(a ++ l).Nodup→l.foldl (fun a x=>if x∈a then a else a ++ [x]) a=a ++ l by
  intro l hl
  simpa [dstN] using h l [] (by simpa using hl)
 intro l
 induction l with
 | nil=>intro a _;simp
 | cons x l ih =>
  intro a h
  have hx:x ∉ a:=fun hxa=>by
   rw [List.nodup_append] at h
   exact h.2.2 x hxa x (by simp) rfl
  rw [List.foldl_cons,if_neg hx,ih (a ++ [x]) (by simpa using h)]
  simp
theorem posN_one:∀ {l:List ByteArray} {i:Int} {j:Nat} {k:ByteArray},l.Nodup→l[j]?=some k→posN k l i=[i+j]
 | [],i,j,k,_,h=>by simp at h
 | y :: l,i,0,k,hn,h=>by
  simp only [List.getElem?_cons_zero,Option.some.injEq] at h
  subst h
  rw [List.nodup_cons] at hn
  rw [posN,if_pos rfl,posN_nil.2 hn.1]
  simp
 | y :: l,i,j+1,k,hn,h=>by
  rw [List.getElem?_cons_succ] at h
  rw [List.nodup_cons] at hn
  have hne:y≠k:=fun e=>hn.1 (e ▸ List.mem_of_getElem? h)
  rw [posN,if_neg hne,posN_one hn.2 h]
  congr 1
  omega
theorem keys_len (s:TStructure):(keys s).length=(gsF s).length:=by rw [gs_key,List.length_map]
theorem znx {s:TStructure} (h:Full s):varsF (blurG s (gsF s))=varsF s∧1≤(gsF s).length:=by
 have hG:=zjk h.b
 obtain ⟨j,g,hg,_⟩:=gs_of s (i:=0) (by have:=h.b.z;omega)
 have hlen:=(List.getElem?_eq_some_iff.1 hg).1
 cases hgs:gsF s with
 | nil=>rw [hgs] at hlen;simp at hlen
 | cons a l =>
  refine ⟨?_,by simp⟩
  have ha:=hG.e a (by rw [hgs];simp)
  have hm:=ha.2.2 _ (zet (List.length_pos_iff.2 ha.1) 0)
  show ((nodeG s a).vars.length:Int)=_
  exact (ziy (h.nodeI hm)).1
theorem blur_pred {s:TStructure} (h:Full s) {j:Nat} {g:List Int} (hg:(gsF s)[j]?=some g) (k:Int):predV (blurG s (gsF s)) k j=predV s k (g.getD 0 0):=by
 unfold predV
 rw [(znx h).1,Int.toNat_natCast,zny hg]
 rfl
theorem blur_name {s:TStructure} (h:Full s) {j:Nat} {g:List Int} (hg:(gsF s)[j]?=some g):nameF (blurG s (gsF s)) j=nameF s (g.getD 0 0):=by
 unfold nameF
 rw [(znx h).1]
 generalize (2 * varsF s+1).toNat=n
 induction n with
 | zero=>rfl
 | succ n ih=>rw [nameK,nameK,ih,blur_pred h hg]
theorem zpf {s:TStructure} (h:Full s):namesL (blurG s (gsF s)) (gsF s).length=keys s:=by
 have hG:=zjk h.b
 apply List.ext_getElem?
 intro j
 by_cases hj:j < (gsF s).length
 ·rw [zik _ hj]
  have hg:=List.getElem?_eq_getElem hj
  rw [blur_name h hg]
  obtain ⟨g0,_,_⟩:=hG.e _ (List.getElem_mem hj)
  exact (gs_name hg (zet (List.length_pos_iff.2 g0) 0)).1.symm
 ·rw [List.getElem?_eq_none (by rw [ziz];omega),List.getElem?_eq_none (by rw [keys_len];omega)]
theorem many_rng {s:TStructure} (h:Full s) {g:List Int} (g0:g≠[]) (hin:inG s g):manyG s g=0∨manyG s g=1:=by
 have hm:=(ziy (h.nodeI (hin _ (zet (List.length_pos_iff.2 g0) 0)))).2.2.2.2.2
 unfold manyG
 split
 ·exact .inr rfl
 ·split
  ·exact .inr rfl
  ·rename_i h1
   left
   omega
theorem znz {s:TStructure} (h:Full s):Full (blurG s (gsF s)):=by
 have hG:=zjk h.b
 have hS:=zkd h.st
 obtain ⟨hv,h1⟩:=znx h
 have hvr:=h.b.v
 have hst:isStrB (varsF (blurG s (gsF s))) (blurG s (gsF s))=true:=by
  unfold isStrB
  rw [hv,zgf]
  simp only [Bool.and_eq_true,decide_eq_true_eq,List.all_eq_true]
  refine ⟨hvr,hG.l,zkq _ _ _,?_,fun y hy=>?_⟩
  ·unfold truthsB
   rw [List.all_eq_true]
   intro v hv
   obtain ⟨a,ha,hv⟩:=List.mem_flatMap.1 hv
   obtain ⟨b,hb,rfl⟩:=List.mem_map.1 hv
   obtain ⟨a0,_,a2⟩:=hG.e a ha
   obtain ⟨b0,_,b2⟩:=hG.e b hb
   have ra:=a2 _ (zet (List.length_pos_iff.2 a0) 0)
   have rb:=b2 _ (zet (List.length_pos_iff.2 b0) 0)
   rw [decide_eq_true_eq]
   obtain ⟨x,hx⟩:=Int.eq_ofNat_of_zero_le ra.1
   obtain ⟨y,hy⟩:=Int.eq_ofNat_of_zero_le rb.1
   have hx':a.getD 0 0=(x:Int):=hx
   have hy':b.getD 0 0=(y:Int):=hy
   refine nextG_rng ?_
   rw [hx',hy']
   exact hS.next x y (by omega) (by omega)
  ·obtain ⟨g,hg,rfl⟩:=List.mem_map.1 hy
   obtain ⟨g0,_,g2⟩:=hG.e g hg
   obtain ⟨p1,p2,p3,p4,p5,p6⟩:=ziy (h.nodeI (g2 _ (zet (List.length_pos_iff.2 g0) 0)))
   have hm:=many_rng h g0 g2
   unfold nodeOkB
   simp only [Bool.and_eq_true,decide_eq_true_eq]
   refine ⟨p1,p2,p3,p4,p5,?_⟩
   show 0≤manyG s g∧manyG s g≤1
   omega
 refine zqm ⟨by rw [zgf];have:=hG.l;unfold small;omega,?_,fun y hy=>?_⟩ hst (by rw [zgf];omega)
 ·have hq:(blurG s (gsF s)).next.length=(gsF s).length * (gsF s).length:=zkq _ _ _
  have:=Nat.mul_le_mul hG.l hG.l
  unfold small
  omega
 ·obtain ⟨g,hg,rfl⟩:=List.mem_map.1 hy
  obtain ⟨g0,_,g2⟩:=hG.e g hg
  have hm:=h.b.sh.e _ (zfr (g2 _ (zet (List.length_pos_iff.2 g0) 0)))
  exact ⟨hm.1,hm.2⟩
theorem gs_blur {s:TStructure} (h:Full s):gsF (blurG s (gsF s))=(List.range (gsF s).length).map fun j:Nat=>[(j:Int)]:=by
 have hn:=zpf h
 have hk:(keys s).Nodup:=zhu _
 have hkk:keys (blurG s (gsF s))=keys s:=by
  unfold keys
  rw [zgf,hn,dstN_self hk]
  exact zjp (zfv _) (zhb _) (zhb _)
 rw [gs_key,hkk,zgf,hn]
 apply List.ext_getElem
 ·rw [List.length_map,keys_len,List.length_map,List.length_range]
 ·intro j h1 h2
  rw [List.length_map] at h1
  rw [List.getElem_map,List.getElem_map,List.getElem_range,posN_one hk (List.getElem?_eq_getElem h1)]
  simp
theorem blur_twice {s:TStructure} (h:Full s):blurG (blurG s (gsF s)) (gsF (blurG s (gsF s)))=blurG s (gsF s):=by
 have hG:=zjk h.b
 have hF:=znz h
 have hS:=zkd hF.st
 have hl:=zgf s (gsF s)
 rw [gs_blur h]
 have en:∀ x:TStructure,x.nodes.length=(gsF s).length→(∀ y∈x.nodes,y.many=0∨y.many=1)→x.next.length=x.nodes.length * x.nodes.length→(∀ i j:Nat,i < x.nodes.length→j < x.nodes.length→0≤nextV x i j∧nextV x i j≤2) →
  blurG x ((List.range (gsF s).length).map fun j:Nat=>[(j:Int)])=x:=by
  intro x hx hm hq hr
  have e1:((List.range (gsF s).length).map fun j:Nat=>[(j:Int)]).map (nodeG x)=x.nodes:=by
   apply List.ext_getElem
   ·simp [hx]
   ·intro j h1 h2
    simp only [List.getElem_map,List.getElem_range]
    have hg:x.nodes.getD j zN=x.nodes[j]:=by simp [List.getD,h2]
    unfold nodeG manyG
    simp only [List.length_singleton,List.getD_cons_zero,Int.toNat_natCast,hg]
    have:=hm _ (List.getElem_mem h2)
    rw [if_neg (by omega)]
    generalize x.nodes[j]=y at *
    rcases y with ⟨a,b,c,d⟩
    simp only at this ⊢
    rcases this with rfl | rfl <;> simp
  have e2:(((List.range (gsF s).length).map fun j:Nat=>[(j:Int)]).flatMap fun a=>((List.range (gsF s).length).map fun j:Nat=>[(j:Int)]).map (nextG x a))=x.next:=by
   have hlen:(((List.range (gsF s).length).map fun j:Nat=>[(j:Int)]).flatMap fun a=>((List.range (gsF s).length).map fun j:Nat=>[(j:Int)]).map (nextG x a)).length=x.next.length:=by
    rw [zkq,hq,hx]
    simp
   apply List.ext_getElem?
   intro p
   by_cases hp:p < (gsF s).length * (gsF s).length
   ·have hpos:0 < (gsF s).length:=by
     rcases Nat.eq_zero_or_pos (gsF s).length with h | h
     ·rw [h] at hp;simp at hp
     ·exact h
    have hi:p / (gsF s).length < (gsF s).length:=Nat.div_lt_of_lt_mul hp
    have hj:p % (gsF s).length < (gsF s).length:=Nat.mod_lt _ hpos
    have hpe:p=p / (gsF s).length * (gsF s).length+p % (gsF s).length:=by rw [Nat.mul_comm];exact (Nat.div_add_mod p _).symm
    have gg:=zqj (F:=nextG x) (l:=(List.range (gsF s).length).map fun j:Nat=>[(j:Int)]) (r:=(List.range (gsF s).length).map fun j:Nat=>[(j:Int)]) (i:=p / (gsF s).length) (j:=p % (gsF s).length) (a:=[((p / (gsF s).length:Nat):Int)]) (b:=[((p % (gsF s).length:Nat):Int)]) (by simp [hi]) (by simp [hj])
    rw [List.length_map,List.length_range,← hpe] at gg
    rw [gg]
    have hv:=hr _ _ (by rw [hx];exact hi) (by rw [hx];exact hj)
    have hn:=znh hq (by rw [hx];exact hi) (by rw [hx];exact hj)
    rw [hx,← hpe] at hn
    have:nextG x [((p / (gsF s).length:Nat):Int)] [((p % (gsF s).length:Nat):Int)]=nextV x ((p / (gsF s).length:Nat):Int) ((p % (gsF s).length:Nat):Int):=by
     simp only [nextG,rowG,List.foldl_cons,List.foldl_nil,List.getD_cons_zero,joinV,if_true,if_pos hv]
    rw [this,hn]
    have hpl:p < x.next.length:=by rw [hq,hx];exact hp
    simp [List.getD,hpl]
   ·rw [List.getElem?_eq_none (by rw [hlen,hq,hx];omega),List.getElem?_eq_none (by rw [hq,hx];omega)]
  unfold blurG
  rw [e1,e2]
 refine en _ hl (fun y hy=>?_) hS.sq hS.next
 obtain ⟨g,hg,rfl⟩:=List.mem_map.1 hy
 obtain ⟨g0,_,g2⟩:=hG.e g hg
 exact many_rng h g0 g2
theorem blur_idem {s:TStructure} (hs:shortS s):blurF (blurF s)=blurF s:=by
 unfold blurF
 by_cases h0:s.nodes.length=0
 ·rw [if_pos h0,if_pos (show (([]:List TNode)).length=0 from rfl)]
 ·rw [if_neg h0]
  by_cases hst:isStrB (varsF s) s=true
  ·have h:=zqm hs hst h0
   have hF:=znz h
   rw [if_pos hst,if_neg (by have:=hF.b.z;omega),if_pos hF.st]
   exact blur_twice h
  ·rw [if_neg hst,if_neg h0,if_neg hst]
theorem blur_uniq {s:TStructure} (h:Full s) {a b:Nat} (ha:a < (gsF s).length) (hb:b < (gsF s).length) (he:nameF (blurG s (gsF s)) a=nameF (blurG s (gsF s)) b):a=b:=by
 have hn:=zpf h
 have h1:=zik (blurG s (gsF s)) ha
 have h2:=zik (blurG s (gsF s)) hb
 rw [hn] at h1 h2
 rw [he] at h1
 obtain ⟨i1,e1⟩:=List.getElem?_eq_some_iff.1 h1
 obtain ⟨i2,e2⟩:=List.getElem?_eq_some_iff.1 h2
 have hk:(keys s).Nodup:=zhu _
 exact (List.getElem_inj hk).1 (e1.trans e2.symm)
theorem emb_nil:Emb ⟨[],[]⟩ ⟨[],[]⟩ id:=⟨fun i hi=>hi,fun i hi=>by simp at hi,fun i k hi=>by simp at hi,fun i k _ hk=>by simp at hk,fun j hj=>by simp at hj⟩
theorem emb_blurF {s:TStructure} (hs:shortS s) (h:s=⟨[],[]⟩∨isStrB (varsF s) s=true):isEmb s (blurF s)=true:=by
 by_cases h0:s.nodes.length=0
 ·rcases h with rfl | h
  ·unfold blurF
   rw [if_pos (show (([]:List TNode)).length=0 from rfl)]
   exact emb_nil.is
  ·have hn:s.nodes=[]:=List.length_eq_zero_iff.1 h0
   have hq:=(zkd h).sq
   have:s=⟨[],[]⟩:=by
    rcases s with ⟨a,b⟩
    simp only at hn hq
    subst hn
    simp only [List.length_nil,Nat.mul_zero,List.length_eq_zero_iff] at hq
    rw [hq]
   subst this
   unfold blurF
   rw [if_pos (show (([]:List TNode)).length=0 from rfl)]
   exact emb_nil.is
 ·rcases h with rfl | h
  ·exact absurd rfl h0
  ·unfold blurF
   rw [if_neg h0,if_pos h]
   obtain ⟨f,hf⟩:=emb_blur (zqm hs h h0)
   exact hf.is
end Go.Ev


namespace Go.Ev
structure CurOK (c:TL1Cur):Prop where
 lo:0≤c.i
 len:c.b.length≤1048576
theorem at_ex {α:Type} {xs:List α} {n:Int} (h0:0≤n) (h1:n < (xs.length:Int)):∃ x,at? xs n=some x:=by
 unfold at?
 rw [if_pos h0]
 exact ⟨_,List.getElem?_eq_getElem (by omega)⟩
theorem byte_ok {c:TL1Cur} (h:CurOK c):Tot (zdb c) fun y=>(0≤y.1∧y.1 < 256)∧CurOK y.2:=by
 unfold zdb
 have h1:=h.lo
 have h2:=h.len
 rw [zee]
 split
 ·rename_i hi
  obtain ⟨e,he⟩:=at_ex h1 hi
  rw [he,Option.bind_some]
  refine Tot.ret ⟨andI_255 _,⟨?_,h2⟩⟩
  show 0≤addI c.i 1
  rw [zan (by omega) (by omega)]
  omega
 ·exact Tot.ret ⟨andI_255 _,⟨h1,h2⟩⟩
theorem zbz {c:TL1Cur} (h:CurOK c) {n:Int} (hn:1≤n∧n≤256):Tot (zaj c n) fun y=>(0≤y.1∧y.1 < n)∧CurOK y.2:=by
 unfold zaj
 simp only [leI,zae]
 rw [if_neg (by omega),if_pos hn.2]
 refine Tot.bind (byte_ok h) fun y hy=>?_
 unfold remQ
 rw [if_neg (by omega),Option.bind_some]
 exact Tot.ret ⟨⟨Int.tmod_nonneg _ hy.1.1,Int.tmod_lt_of_pos _ (by omega)⟩,hy.2⟩
theorem once_ok {c:TL1Cur} (h:CurOK c) {n:Int} (hn:1≤n∧n≤256):Tot (zdz c n) fun y=>CurOK y.2:=by
 unfold zdz
 exact Tot.bind (zbz h hn) fun y hy=>Tot.ret hy.2
theorem zop {c:TL1Cur} (h:CurOK c) {l:List Int} (hl:1≤l.length∧l.length≤256):Tot (zcr c l) fun y=>y.1∈l∧CurOK y.2:=by
 unfold zcr
 refine Tot.bind (zbz h (by omega)) fun y hy=>?_
 obtain ⟨e,he⟩:=at_ex hy.1.1 hy.1.2
 rw [he,Option.bind_some]
 refine Tot.ret ⟨?_,hy.2⟩
 unfold at? at he
 rw [if_pos hy.1.1] at he
 exact List.mem_of_getElem? he
theorem new_ok {code:List U8} (h:code.length≤1048576):Tot (zew code) CurOK:=by
 unfold zew
 refine Tot.bind (P:=fun _=>True) (Tot.loop (fun i s=>s.2=(i:Int)) code.length rfl fun i s hI hi=>?_) fun r _=>Tot.ret ⟨Int.le_refl _,h⟩
 rw [zee]
 split
 ·rename_i hlt
  rw [zee]
  split
  ·obtain ⟨e,he⟩:=at_ex (xs:=code) (n:=s.2) (by omega) hlt
   rw [he,Option.bind_some]
   refine Tot.ret ⟨by omega,?_⟩
   show addI s.2 1=_
   rw [zan (by omega) (by omega),hI]
   omega
  ·exact Tot.ret trivial
 ·exact Tot.ret trivial
theorem zpc {c:TL1Cur} (h:CurOK c) {v:Int} (hv:0≤v∧v≤10):Tot (zeq c v) fun y=>okH y.1∧(y.1.vars.length:Int)=v∧y.1.next.length≤5∧CurOK y.2:=by
 unfold zeq
 refine Tot.bind (zbz h (by omega)) fun y hy=>?_
 obtain ⟨hy1,hyc⟩:=hy
 refine Tot.bind (P:=fun r=>CurOK ⟨r.1,r.2.1,r.2.2.1⟩∧(r.2.2.2.length:Int)=y.1∧∀ x∈r.2.2.2,-1≤x∧x≤y.1 - 1) (Tot.loop (fun i s=>s.1=(i:Int)∧CurOK ⟨s.2.1,s.2.2.1,s.2.2.2.1⟩∧s.2.2.2.2.length=i∧(i:Int)≤y.1∧∀ x∈s.2.2.2.2,-1≤x∧x≤y.1 - 1) y.1.toNat ⟨rfl,hyc,rfl,by omega,by simp⟩ fun i s hI hi=>?_) fun r hr=>?_
 ·obtain ⟨h1,h2,h3,h4,h5⟩:=hI
  have app:∀ w:Int,-1≤w∧w≤y.1 - 1→∀ x∈s.2.2.2.2 ++ [w],-1≤x∧x≤y.1 - 1:=fun w hw x hx=>by
   rcases List.mem_append.1 hx with hx | hx
   ·exact h5 x hx
   ·simp only [List.mem_singleton] at hx
    subst hx
    exact hw
  rw [zee]
  split
  ·rename_i hlt
   refine Tot.bind (once_ok h2 (by omega)) fun z hz=>?_
   cases z.1
   ·simp only [cond_false]
    rw [zao (by simp;omega) (by omega),Option.bind_some,zay (by omega) (by omega)]
    refine Tot.ret ⟨by omega,?_,hz,by simp [h3],by omega,app _ (by omega)⟩
    show addI s.1 1=_
    rw [zan (by omega) (by omega),h1];omega
   ·simp only [cond_true]
    rw [zan (by omega) (by omega)]
    refine Tot.bind (zbz hz (by omega)) fun u hu=>?_
    rw [zao (by simp;omega) (by omega),Option.bind_some,zay (by omega) (by omega)]
    refine Tot.ret ⟨by omega,?_,hu.2,by simp [h3],by omega,app _ (by omega)⟩
    show s.1+1=_
    omega
  ·exact Tot.ret ⟨h2,by show ((s.2.2.2.2.length:Nat):Int)=y.1;omega,h5⟩
 ·obtain ⟨hc,hl,hin⟩:=hr
  refine Tot.bind (P:=fun r=>CurOK ⟨r.1,r.2.1,r.2.2.1⟩∧(r.2.2.2.length:Int)=v∧∀ x∈r.2.2.2,-1≤x∧x≤y.1 - 1) (Tot.loop (fun i s=>s.1=(i:Int)∧CurOK ⟨s.2.1,s.2.2.1,s.2.2.2.1⟩∧s.2.2.2.2.length=i∧(i:Int)≤v∧∀ x∈s.2.2.2.2,-1≤x∧x≤y.1 - 1) v.toNat ⟨rfl,hc,rfl,by omega,by simp⟩ fun i s hI hi=>?_) fun r2 hr2=>?_
  ·obtain ⟨h1,h2,h3,h4,h5⟩:=hI
   have app:∀ w:Int,-1≤w∧w≤y.1 - 1→∀ x∈s.2.2.2.2 ++ [w],-1≤x∧x≤y.1 - 1:=fun w hw x hx=>by
    rcases List.mem_append.1 hx with hx | hx
    ·exact h5 x hx
    ·simp only [List.mem_singleton] at hx
     subst hx
     exact hw
   rw [zee]
   split
   ·rename_i hlt
    rw [zan (by omega) (by omega)]
    refine Tot.bind (zbz h2 (by omega)) fun z hz=>?_
    simp only [eqI,zae]
    rw [zan (by omega) (by omega),zay (a:=y.1) (by omega) (by omega),zay (a:=z.1) (by omega) (by omega)]
    split
    ·refine Tot.bind (once_ok hz.2 (by omega)) fun u hu=>?_
     cases u.1
     ·simp only [cond_false]
      rw [zao (by simp;omega) (by omega),Option.bind_some]
      exact Tot.ret ⟨by omega,by show s.1+1=_;omega,hu,by simp [h3],by omega,app _ (by omega)⟩
     ·simp only [cond_true]
      rw [zao (by simp;omega) (by omega),Option.bind_some]
      exact Tot.ret ⟨by omega,by show s.1+1=_;omega,hu,by simp [h3],by omega,app _ (by omega)⟩
    ·rw [zao (by simp;omega) (by omega),Option.bind_some]
     exact Tot.ret ⟨by omega,by show s.1+1=_;omega,hz.2,by simp [h3],by omega,app _ (by omega)⟩
   ·exact Tot.ret ⟨h2,by show ((s.2.2.2.2.length:Nat):Int)=v;omega,h5⟩
  ·obtain ⟨hc2,hl2,hin2⟩:=hr2
   have hok:okH ⟨r2.2.2.2,r.2.2.2⟩:=⟨by show r2.2.2.2.length≤100;omega,by show r.2.2.2.length≤100;omega⟩
   have hcb:cellsB ⟨r2.2.2.2,r.2.2.2⟩=true:=by
    unfold cellsB
    simp only [Bool.and_eq_true,List.all_eq_true,inH,decide_eq_true_eq]
    exact ⟨fun x hx=>by have:=hin2 x hx;omega,fun x hx=>by have:=hin x hx;omega⟩
   rw [spec_canon _ hok,Option.bind_some]
   have hcl:=canF_len ⟨r2.2.2.2,r.2.2.2⟩
   have h5:r.2.2.2.length≤5:=by omega
   refine Tot.ret ⟨⟨Nat.le_trans hcl.1 hok.1,Nat.le_trans hcl.2 hok.2⟩,?_,Nat.le_trans hcl.2 h5,hc2⟩
   show ((canF _).vars.length:Int)=v
   unfold canF
   rw [if_pos hcb,List.length_map]
   exact hl2
structure Inv (s:TStructure):Prop where
 n:s.nodes.length≤10
 e:∀ y∈s.nodes,y.vars.length=3∧y.reach.length=3
 sq:s.next.length=s.nodes.length * s.nodes.length
theorem Inv.sq10 {s:TStructure} (h:Inv s):s.next.length≤100:=by
 have:=Nat.mul_le_mul h.n h.n
 have:=h.sq
 omega
theorem Inv.sm {s:TStructure} (h:Inv s):Sm.sm s:=⟨⟨by have:=h.n;omega,fun y hy=>⟨⟨by have:=(h.e y hy).1;omega,fun _ _=>trivial⟩,⟨by have:=(h.e y hy).2;omega,fun _ _=>trivial⟩⟩⟩,⟨by have:=h.sq10;omega,fun _ _=>trivial⟩⟩
theorem inv_nil:Inv ⟨[],[]⟩:=⟨by simp,by simp,rfl⟩
theorem str_cases (h:THeap):strOf h=⟨[],[]⟩∨(strOf h=⟨(List.range h.next.length).map (nodeOf h),(List.range h.next.length).flatMap (arrowsOf h)⟩∧h.next.length≤10∧1≤h.vars.length∧h.vars.length≤4):=by
 unfold strOf
 split
 ·split
  ·split
   ·rename_i _ h2 h3;exact .inr ⟨rfl,h2,h3⟩
   ·exact .inl rfl
  ·exact .inl rfl
 ·exact .inl rfl
theorem strInv {h:THeap} (hv:h.vars.length=3):Inv (strOf h):=by
 rcases str_cases h with he | ⟨he,h10,hv1⟩
 ·rw [he];exact inv_nil
 ·refine ⟨by rw [he];simpa using h10,fun y hy=>?_,?_⟩
  ·rw [he] at hy
   obtain ⟨i,_,rfl⟩:=List.mem_map.1 hy
   exact ⟨by show (h.vars.map _).length=3;rw [List.length_map];omega,by show (h.vars.map _).length=3;rw [List.length_map];omega⟩
  ·rw [he]
   simp only [List.length_map,List.length_range]
   exact zhn h _
theorem t3_truths (l:List Int) (f:Int→Bool):truthsB (l.map fun e=>t3 (f e))=true:=by
 unfold truthsB
 rw [List.all_eq_true]
 intro x hx
 obtain ⟨e,_,rfl⟩:=List.mem_map.1 hx
 cases f e <;> rfl
theorem str_form (h:THeap):strOf h=⟨[],[]⟩∨isStrB (varsF (strOf h)) (strOf h)=true:=by
 rcases str_cases h with he | ⟨he,h10,hv1⟩
 ·exact .inl he
 ·by_cases h0:h.next.length=0
  ·left
   rw [he,h0]
   rfl
  ·right
   have hv:varsF (strOf h)=(h.vars.length:Int):=by
    rw [he]
    obtain ⟨n,hn⟩:∃ n,h.next.length=n+1:=⟨h.next.length - 1,by omega⟩
    unfold varsF
    rw [hn,List.range_succ_eq_map]
    show ((nodeOf h 0).vars.length:Int)=_
    unfold nodeOf
    simp
   rw [hv,he]
   unfold isStrB
   simp only [Bool.and_eq_true,decide_eq_true_eq,List.all_eq_true,List.length_map,List.length_range]
   refine ⟨by omega,h10,zhn h _,?_,fun y hy=>?_⟩
   ·unfold truthsB
    rw [List.all_eq_true]
    intro x hx
    obtain ⟨i,_,hx⟩:=List.mem_flatMap.1 hx
    unfold arrowsOf at hx
    obtain ⟨j,_,rfl⟩:=List.mem_map.1 hx
    cases decide (h.next.getD i 0=(j:Int)) <;> rfl
   ·obtain ⟨i,_,rfl⟩:=List.mem_map.1 hy
    unfold nodeOkB nodeOf
    simp only [Bool.and_eq_true,decide_eq_true_eq,List.length_map]
    refine ⟨trivial,trivial,t3_truths _ _,t3_truths _ _,?_,by omega⟩
    have:=t3_or (decide (1 < ((posF (i:Int) 0 h.next).length:Int)))
    omega
theorem blurInv {s:TStructure} (h:Inv s):Inv (blurF s):=by
 unfold blurF
 split
 ·exact inv_nil
 ·rename_i h0
  split
  ·rename_i hs
   have hG:=zjk (okB_of (zhv h.sm) hs h0)
   have hl:(blurG s (gsF s)).nodes.length=(gsF s).length:=by simp [blurG]
   refine ⟨by rw [hl];exact hG.l,fun y hy=>?_,by rw [hl];exact zkq _ _ _⟩
   obtain ⟨g,hg,rfl⟩:=List.mem_map.1 hy
   obtain ⟨g0,_,g2⟩:=hG.e g hg
   have hm:=h.e _ (zfr (g2 _ (zet (List.length_pos_iff.2 g0) 0)))
   exact ⟨hm.1,hm.2⟩
  ·exact h
theorem Inv.setN {s:TStructure} (h:Inv s) (i:Nat) {y:TNode} (hy:y.vars.length=3∧y.reach.length=3):Inv ⟨s.nodes.set i y,s.next⟩:=by
 have hl:(s.nodes.set i y).length=s.nodes.length:=List.length_set
 refine ⟨by rw [hl];exact h.n,fun z hz=>?_,by rw [hl];exact h.sq⟩
 rcases List.mem_or_eq_of_mem_set hz with hz | rfl
 ·exact h.e z hz
 ·exact hy
theorem Inv.setX {s:TStructure} (h:Inv s) (p:Nat):Inv ⟨s.nodes,s.next.set p 1⟩:=⟨h.n,h.e,by rw [List.length_set];exact h.sq⟩
theorem Inv.sh {s:TStructure} (h:Inv s):shortS s:=zhv h.sm
theorem Inv.at {s:TStructure} (h:Inv s) {i:Int} (hi:0≤i∧i < (s.nodes.length:Int)):∃ y,at? s.nodes i=some y∧y.vars.length=3∧y.reach.length=3 :=
 ⟨_,at_in' hi zN,h.e _ (zfr hi)⟩
theorem draw12_ok {c:TL1Cur} (h:CurOK c):Tot (zeo c 3) fun y=>Inv y.1∧CurOK y.2:=by
 unfold zeo
 refine Tot.bind (zpc h (by omega)) fun y hy=>?_
 obtain ⟨ho,hv,_,hc⟩:=hy
 rw [zgl y.1 ho.v ho.n,Option.bind_some]
 have hi:=strInv (h:=y.1) (by omega)
 refine Tot.bind (once_ok hc (by omega)) fun z hz=>?_
 have loop:∀ (s0:TStructure) (c0:TL1Cur),Inv s0→CurOK c0→Tot (zaj c0 3) fun y=>(0≤y.1∧y.1 < 3)∧CurOK y.2:=fun s0 c0 _ hc=>zbz hc (by omega)
 cases z.1
 all_goals simp only [cond_false,cond_true]
 rotate_left
 ·refine Tot.bind (zbz hz (by omega)) fun n hn=>?_
  refine Tot.bind (P:=fun r=>Inv ⟨r.2.2.2.1,r.2.2.2.2⟩∧CurOK ⟨r.1,r.2.1,r.2.2.1⟩) (Tot.loop (fun i s=>s.1=(i:Int)∧Inv ⟨s.2.2.2.2.1,s.2.2.2.2.2⟩∧CurOK ⟨s.2.1,s.2.2.1,s.2.2.2.1⟩) 2 ⟨rfl,hi,hn.2⟩ fun i s hI hle=>?_) fun r hr=>Tot.ret hr
  obtain ⟨h1,h2,h3⟩:=hI
  have hn10:=h2.n
  have hsq:=h2.sq
  have hx10:=h2.sq10
  simp only at hn10 hsq hx10
  rw [zee]
  split
  ·rename_i hlt
   rw [zee]
   split
   ·rename_i hpos
    refine Tot.bind (zbz h3 (by omega)) fun a ha=>?_
    refine Tot.bind (zbz ha.2 (by omega)) fun b hb=>?_
    obtain ⟨y,hy,hy1,hy2⟩:=h2.at (i:=a.1) ⟨ha.1.1,ha.1.2⟩
    simp only at hy
    have hst:addI s.1 1=((i+1:Nat):Int):=by rw [zan (by omega) (by omega),h1];omega
    simp only [eqI,zae,hy,Option.bind_some]
    split
    ·refine Tot.bind (zbz hb.2 (by omega)) fun q hq=>?_
     obtain ⟨e,he⟩:=at_ex (xs:=y.reach) hq.1.1 (by omega)
     rw [he,Option.bind_some]
     exact Tot.ret ⟨by omega,hst,h2.setN _ ⟨hy1,by simpa using hy2⟩,hq.2⟩
    ·split
     ·exact Tot.ret ⟨by omega,hst,h2.setN _ ⟨hy1,hy2⟩,hb.2⟩
     ·split
      ·have hnn:1≤s.2.2.2.2.2.length:=by
        have:=Nat.mul_le_mul (show 1≤s.2.2.2.2.1.length by omega) (show 1≤s.2.2.2.2.1.length by omega)
        omega
       refine Tot.bind (zbz hb.2 (by omega)) fun q hq=>?_
       obtain ⟨e,he⟩:=at_ex (xs:=s.2.2.2.2.2) hq.1.1 hq.1.2
       rw [he,Option.bind_some]
       exact Tot.ret ⟨by omega,hst,h2.setX _,hq.2⟩
      ·exact Tot.ret ⟨by omega,hst,h2,hb.2⟩
   ·exact Tot.ret ⟨h2,h3⟩
  ·exact Tot.ret ⟨h2,h3⟩
 ·rw [zkf hi.sh,Option.bind_some]
  have hi:=blurInv hi
  refine Tot.bind (zbz hz (by omega)) fun n hn=>?_
  refine Tot.bind (P:=fun r=>Inv ⟨r.2.2.2.1,r.2.2.2.2⟩∧CurOK ⟨r.1,r.2.1,r.2.2.1⟩) (Tot.loop (fun i s=>s.1=(i:Int)∧Inv ⟨s.2.2.2.2.1,s.2.2.2.2.2⟩∧CurOK ⟨s.2.1,s.2.2.1,s.2.2.2.1⟩) 2 ⟨rfl,hi,hn.2⟩ fun i s hI hle=>?_) fun r hr=>Tot.ret hr
  obtain ⟨h1,h2,h3⟩:=hI
  have hn10:=h2.n
  have hsq:=h2.sq
  have hx10:=h2.sq10
  simp only at hn10 hsq hx10
  rw [zee]
  split
  ·rename_i hlt
   rw [zee]
   split
   ·rename_i hpos
    refine Tot.bind (zbz h3 (by omega)) fun a ha=>?_
    refine Tot.bind (zbz ha.2 (by omega)) fun b hb=>?_
    obtain ⟨y,hy,hy1,hy2⟩:=h2.at (i:=a.1) ⟨ha.1.1,ha.1.2⟩
    simp only at hy
    have hst:addI s.1 1=((i+1:Nat):Int):=by rw [zan (by omega) (by omega),h1];omega
    simp only [eqI,zae,hy,Option.bind_some]
    split
    ·refine Tot.bind (zbz hb.2 (by omega)) fun q hq=>?_
     obtain ⟨e,he⟩:=at_ex (xs:=y.reach) hq.1.1 (by omega)
     rw [he,Option.bind_some]
     exact Tot.ret ⟨by omega,hst,h2.setN _ ⟨hy1,by simpa using hy2⟩,hq.2⟩
    ·split
     ·exact Tot.ret ⟨by omega,hst,h2.setN _ ⟨hy1,hy2⟩,hb.2⟩
     ·split
      ·have hnn:1≤s.2.2.2.2.2.length:=by
        have:=Nat.mul_le_mul (show 1≤s.2.2.2.2.1.length by omega) (show 1≤s.2.2.2.2.1.length by omega)
        omega
       refine Tot.bind (zbz hb.2 (by omega)) fun q hq=>?_
       obtain ⟨e,he⟩:=at_ex (xs:=s.2.2.2.2.2) hq.1.1 hq.1.2
       rw [he,Option.bind_some]
       exact Tot.ret ⟨by omega,hst,h2.setX _,hq.2⟩
      ·exact Tot.ret ⟨by omega,hst,h2,hb.2⟩
   ·exact Tot.ret ⟨h2,h3⟩
  ·exact Tot.ret ⟨h2,h3⟩

structure Bent (s:TStructure):Prop where
 sm:Sm.sm s
 n:s.nodes.length≤10
 e:∀ y∈s.nodes,y.vars.length=3∧y.reach.length≤3
theorem Inv.bent {s:TStructure} (h:Inv s):Bent s:=⟨h.sm,h.n,fun y hy=>⟨(h.e y hy).1,by have:=(h.e y hy).2;omega⟩⟩
theorem Inv.bentN {s:TStructure} (h:Inv s) (i:Nat) {y:TNode} (hy:y.vars.length=3∧y.reach.length≤3):Bent ⟨s.nodes.set i y,s.next⟩:=by
 have hl:(s.nodes.set i y).length=s.nodes.length:=List.length_set
 have hs:=h.sm
 refine ⟨⟨⟨by rw [hl];exact hs.1.1,fun z hz=>?_⟩,hs.2⟩,by rw [hl];exact h.n,fun z hz=>?_⟩
 ·rcases List.mem_or_eq_of_mem_set hz with hz | rfl
  ·exact hs.1.2 z hz
  ·exact ⟨⟨by omega,fun _ _=>trivial⟩,⟨by omega,fun _ _=>trivial⟩⟩
 ·rcases List.mem_or_eq_of_mem_set hz with hz | rfl
  ·exact h.bent.e z hz
  ·exact hy
theorem bent_ok {c:TL1Cur} (h:CurOK c):Tot (zdu c) fun y=>Bent y.1∧CurOK y.2:=by
 unfold zdu
 refine Tot.bind (draw12_ok h) fun y hy=>?_
 obtain ⟨hi,hc⟩:=hy
 have hx:=hi.sq10
 refine Tot.bind (zbz hc (by omega)) fun b hb=>?_
 simp only [eqI,zae,ltI]
 split
 ·rw [zao (by simp;omega) (by omega),Option.bind_some]
  exact Tot.ret ⟨⟨⟨hi.sm.1,⟨by simp;omega,fun _ _=>trivial⟩⟩,hi.n,fun y hy=>⟨(hi.e y hy).1,by have:=(hi.e y hy).2;omega⟩⟩,hb.2⟩
 ·have hat:0 < (y.1.nodes.length:Int)→∃ z,at? y.1.nodes 0=some z∧z.vars.length=3∧z.reach.length=3:=fun hp=>hi.at ⟨by omega,hp⟩
  split
  ·split
   ·rename_i hp
    obtain ⟨z,hz,z1,z2⟩:=hat hp
    refine Tot.bind (zop hb.2 (by decide)) fun q hq=>?_
    rw [hz,Option.bind_some]
    exact Tot.ret ⟨(hi.setN _ (y:=⟨z.vars,z.reach,z.shared,q.1⟩) ⟨z1,z2⟩).bent,hq.2⟩
   ·exact Tot.ret ⟨hi.bent,hb.2⟩
  ·split
   ·split
    ·rename_i hp
     obtain ⟨z,hz,z1,z2⟩:=hat hp
     simp only [hz,Option.bind_some]
     refine Tot.bind (zop hb.2 (by decide)) fun q hq=>?_
     obtain ⟨e,he⟩:=at_ex (xs:=z.vars) (n:=0) (by omega) (by omega)
     rw [he,Option.bind_some]
     exact Tot.ret ⟨(hi.setN _ (y:=⟨z.vars.set (0:Int).toNat q.1,z.reach,z.shared,z.many⟩) ⟨by simpa using z1,z2⟩).bent,hq.2⟩
    ·exact Tot.ret ⟨hi.bent,hb.2⟩
   ·split
    ·split
     ·rename_i hp
      obtain ⟨z,hz,z1,z2⟩:=hat hp
      simp only [hz,Option.bind_some]
      unfold slc
      rw [if_pos (by omega),Option.bind_some]
      exact Tot.ret ⟨hi.bentN _ ⟨by show z.vars.length=3;omega,by show (List.take _ (List.drop _ z.reach)).length≤3;simp;omega⟩,hb.2⟩
     ·exact Tot.ret ⟨hi.bent,hb.2⟩
    ·exact Tot.ret ⟨hi.bent,hb.2⟩
def predW (s:TStructure) (k i:Int):Int :=
 if k≤varsF s - 1 then (s.nodes.getD i.toNat zN).vars.getD k.toNat 1 else if k≤2 * varsF s - 1 then (s.nodes.getD i.toNat zN).reach.getD (k - varsF s).toNat 1 else (s.nodes.getD i.toNat zN).shared
theorem l13At_all {l:List Int} {k:Int} (hl:small l.length) (h:0≤k):zex l k=some (l.getD k.toNat 1):=by
 unfold small at hl
 unfold zex
 rw [zcq,zay (by omega) (by omega)]
 simp only [Option.bind_some,zae]
 by_cases hk:k < (l.length:Int)
 ·rw [if_pos (by omega),at_in' ⟨h,hk⟩ 1]
  rfl
 ·rw [if_neg (by omega)]
  have:l.getD k.toNat 1=1:=by simp [List.getD,List.getElem?_eq_none (show l.length≤k.toNat by omega)]
  rw [this]
theorem Bent.vars {s:TStructure} (h:Bent s) (h0:1≤s.nodes.length):varsF s=3:=by
 unfold varsF
 cases hn:s.nodes with
 | nil=>rw [hn] at h0;simp at h0
 | cons x l =>
  have:=(h.e x (by rw [hn];simp)).1
  show (x.vars.length:Int)=3
  omega
theorem spec_predW {s:TStructure} (hs:Bent s) {k i:Int} (hi:0≤i∧i < (s.nodes.length:Int)) (hk:0≤k∧k≤6):zbr s k i=some (predW s k i):=by
 have hv:=hs.vars (by omega)
 have hn:=hs.n
 obtain ⟨e1,e2⟩:=hs.e _ (zfr hi)
 unfold zbr predW
 rw [zhg,Option.bind_some,hv,zcq,zcq,zcq,zay (by omega) (by omega),zay (by omega) (by omega),zgm (by omega) (by omega),zay (by omega) (by omega)]
 simp only [Option.bind_some,zae]
 rw [if_pos (by omega)]
 by_cases h1:k≤3 - 1
 ·rw [if_pos (by omega),if_pos h1,at_in' hi zN,Option.bind_some,l13At_all (by unfold small;omega) (by omega)]
  rfl
 ·rw [if_neg (by omega),if_neg h1]
  by_cases h2:k≤2 * 3 - 1
  ·rw [if_pos (by omega),if_pos h2,at_in' hi zN,Option.bind_some,zay (by omega) (by omega),l13At_all (by unfold small;omega) (by omega)]
   rfl
  ·rw [if_neg (by omega),if_neg h2]
   simp only [eqI,zae]
   rw [if_pos (by omega),at_in' hi zN]
   rfl
theorem impl_predW {s:TStructure} (hs:Bent s) {k i:Int} (hi:0≤i∧i < (s.nodes.length:Int)) (hk:0≤k∧k≤6):zbt s k i=some (predW s k i):=by
 have hv:=hs.vars (by omega)
 have hn:=hs.n
 obtain ⟨e1,e2⟩:=hs.e _ (zfr hi)
 unfold zbt predW zam
 rw [zgh,zhg,Option.bind_some,hv,zeh,zay (by omega) (by omega),zgm (by omega) (by omega)]
 simp only [Option.bind_some,zae,eqI,at_in' hi zN,zeh]
 rw [if_pos (by omega)]
 by_cases h3:k=2 * 3
 ·rw [if_pos h3,if_neg (by omega),if_neg (by omega)]
 ·rw [if_neg h3,zay (by omega) (by omega),zay (by omega) (by omega),zay (by omega) (by omega)]
  by_cases h1:k≤3 - 1
  ·rw [if_pos (by omega),if_pos h1,if_pos (by omega),at_in' (by omega) 1]
   rfl
  ·rw [if_neg (by omega),if_neg h1,if_pos (by omega),zay (by omega) (by omega),zay (by omega) (by omega)]
   by_cases h4:k - 3 < ((s.nodes.getD i.toNat zN).reach.length:Int)
   ·rw [if_pos (by omega),at_in' (by omega) 1,if_pos (by omega)]
    rfl
   ·have h5:∀ r:List Int,r.length≤(k - 3).toNat→r.getD (k - 3).toNat 1=1:=fun r hr=>by simp [List.getD,List.getElem?_eq_none hr]
    rw [if_neg (by omega),if_pos (by omega),h5 _ (by omega)]
def nameW (s:TStructure) (i:Int):Nat→ByteArray
 | 0=>⟨#[]⟩
 | k+1=>nameW s i k ++ txtF (predW s k i)
theorem zll (s:TStructure) (i:Int):∀ k,(nameW s i k).size≤k
 | 0=>Nat.le_refl _
 | k+1=>by
  rw [nameW,ByteArray.size_append]
  have:=zll s i k
  have:=ziu (predW s k i)
  omega
theorem spec_nameW {s:TStructure} (hs:Bent s) {i:Int} (hi:-10≤i∧i≤10):zct s i=some (if 0≤i∧i < (s.nodes.length:Int) then nameW s i 7 else ⟨#[]⟩):=by
 have hn:=hs.n
 unfold zct
 rw [zcq,zay (by omega) (by omega)]
 simp only [Option.bind_some,zae]
 by_cases h:0≤i∧i < (s.nodes.length:Int)
 ·have hv:=hs.vars (by omega)
  have hcp:zav s=some 7:=by
   unfold zav
   simp only [eqI,zae]
   rw [if_neg (by omega),zhg,Option.bind_some,hv,zgm (by omega) (by omega),zan (by omega) (by omega)]
   rfl
  rw [if_pos (by omega),if_pos h,hcp]
  simp only [Option.bind_some]
  refine Tot.eq (Tot.bind (P:=(· = nameW s i 7)) (Tot.loop (fun k q=>q=(nameW s i k,(k:Int))) 7 rfl fun k q hI hk=>?_) fun r hr=>by subst hr;exact Tot.ret rfl)
  subst hI
  by_cases hlt:(k:Int) < 7
  ·simp only [ltI,zae]
   rw [if_pos hlt,spec_predW hs h (by omega),Option.bind_some,zpo,Option.bind_some]
   have h1:=zll s i k
   have h2:=ziu (predW s k i)
   unfold catS
   rw [if_pos (by omega),Option.bind_some,zan (by omega) (by omega)]
   exact Tot.ret ⟨by omega,rfl⟩
  ·simp only [ltI,zae]
   rw [if_neg hlt]
   have:k=7:=by omega
   subst this
   exact Tot.ret rfl
 ·rw [if_neg (by omega),if_neg h]
theorem impl_nameW {s:TStructure} (hs:Bent s) {i:Int} (hi:-10≤i∧i≤10):zau s i=some (if 0≤i∧i < (s.nodes.length:Int) then nameW s i 7 else ⟨#[]⟩):=by
 have hn:=hs.n
 unfold zau zam
 rw [zeh,zay (by omega) (by omega)]
 simp only [Option.bind_some,zae]
 by_cases h:0≤i∧i < (s.nodes.length:Int)
 ·have hv:=hs.vars (by omega)
  have hcp:zaw s=some 7:=by
   unfold zaw
   simp only [eqI,zae]
   rw [if_neg (by omega),zgh,zhg,Option.bind_some,hv,zgm (by omega) (by omega),zan (by omega) (by omega)]
   rfl
  rw [if_pos (by omega),if_pos h,hcp]
  simp only [Option.bind_some]
  refine Tot.eq (Tot.bind (P:=(· = nameW s i 7)) (Tot.loop (fun k q=>q=(nameW s i k,(k:Int))) 7 rfl fun k q hI hk=>?_) fun r hr=>by subst hr;exact Tot.ret rfl)
  subst hI
  by_cases hlt:(k:Int) < 7
  ·simp only [ltI,zae]
   rw [if_pos hlt,impl_predW hs h (by omega),Option.bind_some,impl_txt,Option.bind_some]
   have h1:=zll s i k
   have h2:=ziu (predW s k i)
   unfold catS
   rw [if_pos (by omega),Option.bind_some,zan (by omega) (by omega)]
   exact Tot.ret ⟨by omega,rfl⟩
  ·simp only [ltI,zae]
   rw [if_neg hlt]
   have:k=7:=by omega
   subst this
   exact Tot.ret rfl
 ·rw [if_neg (by omega),if_neg h]
theorem bent7_ok {c:TL1Cur} (h:CurOK c):Tot (zfb c) fun y=>okH y.1.2:=by
 unfold zfb
 refine Tot.bind (zpc h (by omega)) fun y hy=>?_
 obtain ⟨ho,hv,hn,hc⟩:=hy
 refine Tot.bind (zbz hc (by omega)) fun b hb=>?_
 simp only [eqI,zae,ltI]
 split
 ·refine Tot.bind (zbz hb.2 (by omega)) fun q hq=>?_
  obtain ⟨e,he⟩:=at_ex (xs:=y.1.vars) (n:=0) (by omega) (by omega)
  rw [he,Option.bind_some]
  exact Tot.ret ⟨by show (List.set _ _ _).length≤100;rw [List.length_set];exact ho.1,ho.2⟩
 ·split
  ·refine Tot.bind (zbz hb.2 (by omega)) fun q hq=>?_
   rw [zao (by simp;omega) (by omega),Option.bind_some]
   exact Tot.ret ⟨ho.1,by show (_ ++ [_]).length≤100;rw [List.length_append,List.length_singleton];omega⟩
  ·split
   ·split
    ·rename_i hp
     refine Tot.bind (zbz hb.2 (by omega)) fun q hq=>?_
     obtain ⟨e,he⟩:=at_ex (xs:=y.1.next) (n:=0) (by omega) (by omega)
     rw [he,Option.bind_some]
     exact Tot.ret ⟨ho.1,by show (List.set _ _ _).length≤100;rw [List.length_set];exact ho.2⟩
    ·exact Tot.ret ho
   ·split
    ·refine Tot.bind (zbz hb.2 (by omega)) fun q hq=>?_
     exact Tot.ret ho
    ·exact Tot.ret ho
end Go.Ev


namespace Go.Ev
theorem zmx {a b:List Int} (h:a.length≤9223372036854775806):zep a b=some (decide (a=b)):=by
 refine eqRow h (fun i x y hi hx hy=>?_) ?_ (by unfold zep;rfl)
 ·simp only [zee,cond_ne,zef,hx,hy,Option.bind_some,Int.ofNat_lt,hi,if_true]
  by_cases he:x=y <;> simp [he]
 ·simp [zee]
theorem zlo {a b:List Int} (h:a.length≤9223372036854775806):zbs a b=some (decide (a=b)):=by
 refine eqRow h (fun i x y hi hx hy=>?_) ?_ (by unfold zbs;rfl)
 ·simp only [zee,cond_ne,zef,hx,hy,Option.bind_some,Int.ofNat_lt,hi,if_true]
  by_cases he:x=y <;> simp [he]
 ·simp [zee]
theorem zpp {a b:TNode} (h:okN a):zdc a b=some (decide (a=b)):=by
 obtain ⟨h1,h2⟩:=h
 unfold small at h1 h2
 unfold zdc
 rw [zmx (by omega),zmx (by omega)]
 rcases a with ⟨a0,a1,a2,a3⟩
 rcases b with ⟨b0,b1,b2,b3⟩
 simp only [Option.bind_some,zae,eqI,TNode.mk.injEq]
 by_cases h0:a0=b0 <;> by_cases h1:a1=b1 <;> by_cases h2:a2=b2 <;> by_cases h3:a3=b3 <;> simp [h0,h1,h2,h3]
theorem zqg {a b:TNode} (h:okN a):zbl a b=some (decide (a=b)):=by
 obtain ⟨h1,h2⟩:=h
 unfold small at h1 h2
 unfold zbl
 rw [zlo (by omega),zlo (by omega)]
 rcases a with ⟨a0,a1,a2,a3⟩
 rcases b with ⟨b0,b1,b2,b3⟩
 simp only [Option.bind_some,zae,eqI,TNode.mk.injEq]
 by_cases h0:a0=b0 <;> by_cases h1:a1=b1 <;> by_cases h2:a2=b2 <;> by_cases h3:a3=b3 <;> simp [h0,h1,h2,h3]
theorem zlg {a b:TStructure} (h:shortS a):zba a b=some (decide (a=b)):=by
 have hn:=h.n
 have hx:=h.x
 unfold small at hn hx
 have he:a=b ↔ a.nodes=b.nodes∧a.next=b.next:=by
  rcases a with ⟨a0,a1⟩
  rcases b with ⟨b0,b1⟩
  simp
 unfold zba
 simp only [neI,zdh,zmx (a:=a.next) (b:=b.next) (by omega),Option.bind_some,zae]
 by_cases hl:a.nodes.length=b.nodes.length
 ·rw [if_pos (by omega)]
  by_cases h2:a.next=b.next
  ·rw [if_pos h2,iter_eqRow (xs:=a.nodes) (ys:=b.nodes) (.inl ()) (.inr ()) (by omega) hl (fun i x y hi hx hy=>?_) ?_]
   ·by_cases h1:a.nodes=b.nodes
    ·rw [if_pos h1,decide_eq_true (he.2 ⟨h1,h2⟩)];rfl
    ·rw [if_neg h1,decide_eq_false (fun h=>h1 (he.1 h).1)];rfl
   ·simp [zee]
   ·simp only [zee,zpp (h.e _ (List.mem_of_getElem? hx)),zae,zef,hx,hy,Option.bind_some,Int.ofNat_lt,hi,if_true]
    by_cases he:x=y <;> simp [he]
  ·rw [if_neg h2,decide_eq_false (fun h=>h2 (he.1 h).2)]
 ·rw [if_neg (by omega),decide_eq_false (fun h=>hl (by rw [h]))]
theorem zoz {a b:TStructure} (h:shortS a):zbu a b=some (decide (a=b)):=by
 have hn:=h.n
 have hx:=h.x
 unfold small at hn hx
 have he:zak a.nodes b.nodes (fun x0 x1=>zbl x0 x1)=some (decide (a.nodes=b.nodes)):=by
  refine eqRow (by omega) (fun i x y hi hx hy=>?_) ?_ (by unfold zak;rfl)
  ·simp only [zee,zqg (h.e _ (List.mem_of_getElem? hx)),zae,zef,hx,hy,Option.bind_some,Int.ofNat_lt,hi,if_true]
   by_cases he:x=y <;> simp [he]
  ·simp [zee]
 unfold zbu
 rw [zlo (by omega),he]
 rcases a with ⟨a0,a1⟩
 rcases b with ⟨b0,b1⟩
 simp only [Option.bind_some,zae,TStructure.mk.injEq]
 by_cases h0:a0=b0 <;> by_cases h1:a1=b1 <;> simp [h0,h1]

theorem drawB_ok {code:List U8} (hl:code.length≤1048576):Tot (zer code) Bent:=by
 unfold zer
 refine Tot.bind (new_ok hl) fun c hc=>?_
 refine Tot.bind (bent_ok hc) fun y hy=>?_
 exact Tot.ret hy.1
theorem drawN_ok {code:List U8} (hl:code.length≤1048576):Tot (zco code) fun y=>Bent y.1∧-10≤y.2∧y.2≤10:=by
 unfold zco zej
 refine Tot.bind (P:=fun y=>Bent y.1∧-10≤y.2.1∧y.2.1≤10) (Tot.bind (new_ok hl) fun c hc=>?_) fun y hy=>Tot.ret hy
 refine Tot.bind (bent_ok hc) fun y hy=>?_
 refine Tot.bind (zbz hy.2 (by omega)) fun a ha=>?_
 refine Tot.bind (zbz ha.2 (by omega)) fun b hb=>?_
 rw [zay (by omega) (by omega)]
 exact Tot.ret ⟨hy.1,by show -10≤a.1 - 1;omega,by show a.1 - 1≤10;omega⟩
theorem drawA_ok {code:List U8} (hl:code.length≤1048576):Tot (zbf code) okH:=by
 unfold zbf zcz
 refine Tot.bind (P:=okH) (Tot.bind (new_ok hl) fun c hc=>?_) fun y hy=>Tot.ret hy
 exact Tot.bind (bent7_ok hc) fun y hy=>Tot.ret hy
theorem eqS_eq {a b:ByteArray} (h:eqS a b=true):a=b:=by
 rw [eqS_dec] at h
 exact of_decide_eq_true h
theorem neS_self (a:ByteArray):neS a a=false:=by unfold neS;simp
theorem neB_self (a:Bool):neB a a=false:=by cases a <;> rfl
theorem uniq_loop {x:TStructure} (hl:x.nodes.length≤10) {nm:Nat→ByteArray} (hn:∀ i:Nat,i < x.nodes.length→zau x i=some (nm i)) (hu:∀ i j:Nat,i < x.nodes.length→j < x.nodes.length→nm i=nm j→i=j) :
 iter (ρ:=(Bool) ⊕ (Unit)) (fun s_56:Int =>
                       cond (ltI s_56 (x.nodes.length:Int))
                        ((iter (ρ:=(Bool) ⊕ (Unit)) (fun s_64:Int =>
                         cond (ltI s_64 s_56)
                          ((zau x s_56).bind fun y_72 =>
                           (zau x s_64).bind fun y_75 =>
                            cond (eqS y_72 y_75)
                             (some (.inr (.inl false)))
                             (some (.inl (addI s_64 1))))
                          (some (.inr (.inr ())))) 0).bind fun r_79 =>
                         Sum.elim (fun r_79 =>
                          some (.inr (.inl r_79)))
                          (fun _r_79 =>
                          some (.inl (addI s_56 1))) r_79)
                        (some (.inr (.inr ())))) 0=some (.inr ()):=by
 refine Tot.eq (Tot.all x.nodes.length (fun _=>true) false () (fun i hi=>?_) ?_ ?_)
 ·simp only [ltI,zae]
  rw [if_pos (by omega)]
  refine Tot.bind (P:=(· = .inr ())) (Tot.all i (fun _=>true) false () (fun j hj=>?_) ?_ ?_) fun r hr=>?_
  ·simp only [hn i hi,hn j (by omega),Option.bind_some]
   rw [if_pos (by omega),zan (by omega) (by omega)]
   have:eqS (nm i) (nm j)=false:=by
    cases he:eqS (nm i) (nm j) with
    | false=>rfl
    | true =>
     have:=hu i j hi (by omega) (eqS_eq he)
     omega
   rw [this]
   exact Tot.ret rfl
  ·rw [if_neg (by omega)]
   exact Tot.ret rfl
  ·simp
  ·subst hr
   rw [zan (by omega) (by omega)]
   exact Tot.ret rfl
 ·simp only [ltI,zae]
  rw [if_neg (by omega)]
  exact Tot.ret rfl
 ·simp
theorem law_Blurred {code:List U8} (_:Wf.wf code):laws_FnBlurred code=some true:=by
 unfold laws_FnBlurred laws_big
 rw [Option.bind_some,zee]
 by_cases hb:(1048576:Int) < code.length
 ·rw [if_pos hb]
 rw [if_neg hb]
 have hl:code.length≤1048576:=by omega
 obtain ⟨s,hd,hB⟩:=drawB_ok hl
 obtain ⟨⟨y,i⟩,hd2,hY⟩:=drawN_ok hl
 obtain ⟨h,hd3,hh⟩:=drawA_ok hl
 have hY1:Bent y:=hY.1
 have hY2:-10≤i∧i≤10:=hY.2
 have hs:=zhv hB.sm
 have hx:=sm_blur hB.sm
 have hxs:=zhv hx
 have hg:=strOf_ok h
 have hgs:shortS (strOf h):=zhv (sm_strOf h)
 have hAs:=zhv (sm_blur (sm_strOf h))
 have hA:zce h=some (blurF (strOf h)):=by
  unfold zce
  rw [zgl h hh.v hh.n,Option.bind_some,zkf hgs]
  rfl
 have hA2:zbo h=some (blurF (strOf h)):=by
  unfold zbo
  rw [zme h hh.v hh.n hh.vn,Option.bind_some,zkp hgs]
  rfl
 have b1:zcb s=some (decide (s=blurF s)):=by
  unfold zcb
  rw [zkp hs,Option.bind_some,zoz hs]
  rfl
 have b2:zea s=some (decide (s=blurF s)):=by
  unfold zea
  rw [zkf hs,Option.bind_some,zlg hs]
  rfl
 have b3:zcb (blurF s)=some true:=by
  unfold zcb
  rw [zkp hxs,blur_idem hs,Option.bind_some,zoz hxs,decide_eq_true rfl]
  rfl
 have hD:zeb (blurF (strOf h)) h=some true:=by
  unfold zeb
  rw [zgl h hh.v hh.n,Option.bind_some,zii _ _ hg hAs.n,emb_blurF hgs (str_form h)]
  rfl
 simp only [hd,hd2,hd3,Option.bind_some,zkp hs,zkf hs,zlg hxs,decide_true,cond_true,impl_nameW hY1 hY2,spec_nameW hY1 hY2,hA,hA2,zlg hAs,b1,b2,b3,neB_self,neS_self,cond_false,zie 3 s hs]
 cases hst:isStrB 3 s with
 | false=>rfl
 | true =>
  have hform:s=⟨[],[]⟩∨isStrB (varsF s) s=true:=by
   by_cases h0:s.nodes.length=0
   ·left
    have hn:s.nodes=[]:=List.length_eq_zero_iff.1 h0
    have hq:=(zkd hst).sq
    rcases s with ⟨a,b⟩
    simp only at hn hq
    subst hn
    simp only [List.length_nil,Nat.mul_zero,List.length_eq_zero_iff] at hq
    rw [hq]
   ·right
    rw [hB.vars (by omega)]
    exact hst
  have hloop:∃ nm:Nat→ByteArray,(∀ i:Nat,i < (blurF s).nodes.length→zau (blurF s) i=some (nm i))∧(∀ i j:Nat,i < (blurF s).nodes.length→j < (blurF s).nodes.length→nm i=nm j→i=j)∧(blurF s).nodes.length≤10:=by
   by_cases h0:s.nodes.length=0
   ·have:blurF s=⟨[],[]⟩:=by unfold blurF;rw [if_pos h0]
    rw [this]
    exact ⟨fun _=>⟨#[]⟩,fun i hi=>by simp at hi,fun i j hi=>by simp at hi,by simp⟩
   ·have hsf:isStrB (varsF s) s=true:=by
     rcases hform with rfl | h
     ·exact absurd rfl h0
     ·exact h
    have hF:=zqm hs hsf h0
    have hG:=zjk hF.b
    have hFx:=znz hF
    have e:blurF s=blurG s (gsF s):=by unfold blurF;rw [if_neg h0,if_pos hsf]
    rw [e,zgf]
    exact ⟨fun i=>nameF (blurG s (gsF s)) (i:Int),fun i hi=>impl_name hFx.b ⟨by omega,by rw [zgf];omega⟩,fun i j hi hj he=>blur_uniq hF hi hj he,hG.l⟩
  obtain ⟨nm,u1,u2,u3⟩:=hloop
  simp only [cond_true,uniq_loop u3 u1 u2,Option.bind_some,Sum.elim_inr,zii _ _ hs.ok hxs.n,emb_blurF hs hform,spec_isHeap,hD]
  cases isHeapB 3 h <;> rfl
end Go.Ev


namespace Go.Proofs
open Go.Ev
theorem st0 {g:Cfg} {f:Nat} {args:List AV} {fn:Go.Func} {r:AV} (l:List Go.ResultVar) (h1:Tryz.prog.funcs[f]?=some fn) (h:Goal (FnEnd Tryz.prog 0 l ((lookK (f,atEnd) g.gho).getD []) r) (evk g (0+1) f (fn.body.getD .skip) [] { env:=fun t=>(args[t]?).getD .dead,mem:=mem0 }))
 (h0:lookN f g.ctx=none:=by rfl) (hP:g.P=Tryz.prog:=by rfl) (h2:fn.body=some (fn.body.getD .skip):=by kernel_rfl) (h3:fnOK g f fn=true:=by kernel_rfl) (h4:Nat.ble args.length fn.ntmps=true:=by kernel_rfl) (h5:fn.results.toList=l:=by rfl):∃ m,callo g 0 f args mem0=some (r,m) :=
 start_fn _ l h0 hP h1 h2 h3 (Nat.le_of_ble_eq_true h4) h5 h
theorem stD {g:Cfg} {f d:Nat} {args:List AV} {fn:Go.Func} {r:AV} {mem:Mem} {Q:Mem→Prop} (l:List Go.ResultVar) (h1:Tryz.prog.funcs[f]?=some fn) (h:∀ QV,QV=Q→Goal (FnEndD Tryz.prog d l ((lookK (f,atEnd) g.gho).getD []) r QV) (evk g (d+1) f (fn.body.getD .skip) [] { env:=fun t=>(args[t]?).getD .dead,mem }))
 (h0:lookN f g.ctx=none:=by rfl) (hP:g.P=Tryz.prog:=by rfl) (h2:fn.body=some (fn.body.getD .skip):=by kernel_rfl) (h3:fnOK g f fn=true:=by kernel_rfl) (h4:Nat.ble args.length fn.ntmps=true:=by kernel_rfl) (h5:fn.results.toList=l:=by rfl):∃ m,callo g d f args mem=some (r,m)∧Q m :=
 start_D _ l h0 hP h1 h2 h3 (Nat.le_of_ble_eq_true h4) h5 h
theorem ent {f : Nat} {fn : Go.Func} (h : Tryz.prog.funcs[f]? = some fn) (h1 : fn.body.isSome = true := by kernel_rfl) (h2 : (fn.name == "runtime.NumGoroutine") = false := by kernel_rfl) : Go.Ev.Enters Tryz.prog f := ⟨fn, h, h1, h2⟩
@[simp] theorem ti_3:ti Tryz.prog 3=some { size:=1,bytes:=8,agg:=false,elem:=none,flds:=[],zero:=[.int .i64 0] }:=by kernel_rfl
@[simp] theorem ti_4:ti Tryz.prog 4=some { size:=1,bytes:=1,agg:=false,elem:=none,flds:=[],zero:=[.bool false] }:=by kernel_rfl
attribute [simp] Tryz.underlying4
@[simp] theorem ti_5:ti Tryz.prog 5=some { size:=1,bytes:=1,agg:=false,elem:=none,flds:=[],zero:=[.int .u8 0] }:=by kernel_rfl
@[simp] theorem ti_9:ti Tryz.prog 9=some { size:=1,bytes:=16,agg:=false,elem:=none,flds:=[],zero:=[.string ByteArray.empty] }:=by kernel_rfl
attribute [simp] Tryz.underlying9
@[simp] theorem ti_22:ti Tryz.prog 22=some { size:=1,bytes:=24,agg:=false,elem:=some 5,flds:=[],zero:=[.slice none 0 0] }:=by kernel_rfl
@[simp] theorem ti_29:ti Tryz.prog 29=some { size:=1,bytes:=24,agg:=false,elem:=some 75,flds:=[],zero:=[.slice none 0 0] }:=by kernel_rfl
@[simp] theorem ti_30:ti Tryz.prog 30=some { size:=1,bytes:=24,agg:=false,elem:=some 3,flds:=[],zero:=[.slice none 0 0] }:=by kernel_rfl
@[simp] theorem ti_32:ti Tryz.prog 32=some { size:=2,bytes:=48,agg:=true,elem:=none,flds:=[(0,29),(1,30)],zero:=[.slice none 0 0,.slice none 0 0] }:=by kernel_rfl
@[simp] theorem ti_36:ti Tryz.prog 36=some { size:=2,bytes:=48,agg:=true,elem:=none,flds:=[(0,30),(1,30)],zero:=[.slice none 0 0,.slice none 0 0] }:=by kernel_rfl
@[simp] theorem ti_71:ti Tryz.prog 71=some { size:=1,bytes:=24,agg:=false,elem:=some 9,flds:=[],zero:=[.slice none 0 0] }:=by kernel_rfl
@[simp] theorem ti_75:ti Tryz.prog 75=some { size:=4,bytes:=64,agg:=true,elem:=none,flds:=[(0,30),(1,30),(2,3),(3,3)],zero:=[.slice none 0 0,.slice none 0 0,.int .i64 0,.int .i64 0] }:=by kernel_rfl
@[simp] theorem ti_81:ti Tryz.prog 81=some { size:=1,bytes:=24,agg:=false,elem:=some 30,flds:=[],zero:=[.slice none 0 0] }:=by kernel_rfl
@[simp] theorem ti_93:ti Tryz.prog 93=some { size:=3,bytes:=40,agg:=true,elem:=none,flds:=[(0,22),(1,3),(2,3)],zero:=[.slice none 0 0,.int .i64 0,.int .i64 0] }:=by kernel_rfl
end Go.Proofs


namespace Go.Proofs
open Go.Ev Go.RowKit Go.Lib Go.Sort
theorem INFO3:(Tryz.prog.info? 3).map (fun i=>(i.zero,i.size,i.bytes))=some (some (.int .i64 0),1,8):=by kernel_rfl
set_option maxHeartbeats 2000000 in
set_option maxRecDepth 100000 in
theorem clone95_nil (n c:Nat) (w:World):Calls Tryz.prog 95 #[.slice none n c] w fun e w'=>e=.returned (.slice none 0 0)∧w'=w:=by
 have q30:∀ (w:World) (a:Option Addr) (n c n' c':Nat),(binOp .eql 30 (.slice a n c) (.slice none n' c')).run Tryz.prog w=.ok (.bool a.isNone) w:=fun w a n c n' c'=>Lib.run_eql_slice_nil w _ _ a n c n' c' Tryz.underlying30
 go_enter Tryz.func95,Tryz.ntmps95
 go_wp2
 go_ret
 exact ⟨rfl,rfl⟩

set_option maxHeartbeats 2000000 in
set_option maxRecDepth 100000 in
theorem clone95_zero (a:Addr) (c:Nat) (w:World) :
 Calls Tryz.prog 95 #[.slice (some a) 0 c] w fun e w'=>∃ b,e=.returned (.slice b 0 0)∧w'=w.alloc (.cells #[] 3):=by
 have q30:∀ (w:World) (a:Option Addr) (n c n' c':Nat),(binOp .eql 30 (.slice a n c) (.slice none n' c')).run Tryz.prog w=.ok (.bool a.isNone) w:=fun w a n c n' c'=>Lib.run_eql_slice_nil w _ _ a n c n' c' Tryz.underlying30
 go_enter Tryz.func95,Tryz.ntmps95
 go_wp2
 go_ret
 exact ⟨_,rfl,rfl⟩

set_option maxHeartbeats 2000000 in
set_option maxRecDepth 100000 in
theorem clone95_row (b off n c:Nat) (vs:List Value) (w:World) (hlen:vs.length=n * 1) (hbig:n * 8≤140737488355328) (hsc:∀ u∈vs,scal u=true) (hc:∀ j u,vs[j]?=some u→w.cell? ⟨b,off+j,none⟩=some u) :
 Calls Tryz.prog 95 #[.slice (some ⟨b,off,none⟩) n c] w fun e w'=>∃ v',e=.returned v'∧w'.ownsRow w.heap.size 3 1 v' n vs∧Below w.heap.size w w':=by
 obtain ⟨i0,hi,hz0,hz1,hz2⟩:=info_parts INFO3
 have q30:∀ (w:World) (a:Option Addr) (n c n' c':Nat),(binOp .eql 30 (.slice a n c) (.slice none n' c')).run Tryz.prog w=.ok (.bool a.isNone) w:=fun w a n c n' c'=>Lib.run_eql_slice_nil w _ _ a n c n' c' Tryz.underlying30
 have u30:∀ w,Sem.run Tryz.prog (underlying 30) w=.ok (TypeDesc.slice 3) w:=run_underlying Tryz.underlying30
 have A:Aside (∀ j u,vs[j]?=some u→w.cell? ⟨b,off+j,none⟩=some u):=hc
 clear hc
 go_enter Tryz.func95,Tryz.ntmps95
 go_wp2_with (at_builtin;refine wpList_append_own _ rfl _ _ 30 rfl w.heap.size 3 i0 (.int .i64 0) 1 8 Tryz.underlying30 hi hz0 hz1 hz2 rfl (by decide) _ _ _ rfl (World.ownsRow_made w #[] 0 (Nat.le_refl _) (Nat.zero_le _) rfl) ⟨b,off,none⟩ n c vs rfl ?qc1 ?qc2 ?qc3 ?qc4 ?qc5 ?qc6 ?_)
 case qc1=>exact hlen
 case qc2 =>
  intro j u hj
  rw [Addr.add_lit]
  exact Lib.cell?_alloc_some _ (A.out j u hj)
 case qc3 =>
  intro u hu
  have:=hsc u hu
  cases u <;> first | rfl | cases this
 case qc4=>unfold maxLen;omega
 case qc5=>omega
 case qc6=>simp
 intro v' w1 hown hgrow hnil
 go_wp2
 go_ret
 refine ⟨_,rfl,by simpa using hown,?_⟩
 refine ⟨hgrow.os,hgrow.tape,hgrow.output,?_,fun k hk=>?_⟩
 ·have:=hgrow.size;rw [World.size_alloc] at this;omega
 ·rw [hgrow.block k (by rw [World.size_alloc];omega) (by simp [Value.ownBlock];omega),zfz w _ hk]

def C95:List AV→Option AV:=specP (X:=List Int × Unit) fun x=>zcl x.1
theorem C95_eq {s:List Int} {y} (h:zcl s=some y):C95 [av .shr s]=some (Res.res y):=zah (X:=List Int × Unit) (F:=fun x=>zcl x.1) (x:=(s,())) h
theorem pc95:PC Tryz.prog 95 C95 :=
 pc_clone (α:=Int) (e:=3) (bytes:=8) ⟨Tryz.f95,Tryz.func95,by kernel_rfl,by kernel_rfl⟩ clone95_nil
  (fun a c w=>(clone95_zero a c w).mono fun e w' h=>by
   obtain ⟨b,rfl,rfl⟩:=h
   exact ⟨b,rfl,rfl,rfl,rfl,by rw [World.size_alloc];omega,fun k hk=>zfz w _ hk⟩)
  clone95_row

set_option maxHeartbeats 4000000 in
set_option maxRecDepth 100000 in
theorem grow156_zero (w:World):Calls Tryz.prog 156 #[.slice none 0 0,.int .i64 0] w fun e w'=>e=.returned (.slice none 0 0)∧w'=w:=by
 have u30:∀ w,Sem.run Tryz.prog (underlying 30) w=.ok (TypeDesc.slice 3) w:=run_underlying Tryz.underlying30
 go_enter Tryz.func156,Tryz.ntmps156
 go_wp2
 go_ret
 exact ⟨rfl,rfl⟩

set_option maxHeartbeats 4000000 in
set_option maxRecDepth 100000 in
theorem grow156_pos (n:Nat) (w:World) (h0:0 < n) (hbig:n * 8≤140737488355328) :
 Calls Tryz.prog 156 #[.slice none 0 0,.int .i64 n] w fun e w'=>∃ v,e=.returned v∧w'.ownsRow w.heap.size 3 1 v 0 []∧Below w.heap.size w w':=by
 obtain ⟨i0,hi,hz0,hz1,hz2⟩:=info_parts INFO3
 have u30:∀ w,Sem.run Tryz.prog (underlying 30) w=.ok (TypeDesc.slice 3) w:=run_underlying Tryz.underlying30
 have hrz:=fun ty=>run_append_grow_zeros (P:=Tryz.prog) w 30 3 ty 3 i0 (.int .i64 0) .i64 .i64 Tryz.underlying30 Tryz.underlying3 hi hz0 none 0 0 [] (run_firstCells_none w.drew i0.size 0 0 0) n h0 (by omega) (by omega) (by omega) (by rw [hz2];omega)
  (by rw [hz2];exact growslice_fits (by omega) (by omega))
 have hGn:0+n≤grownCap w (0+n) 0 3:=grownCap_ge w _ _ _
 have hGm:=grownCap_le_maxLen w (0+n) 0 3 (by unfold maxLen;omega)
 obtain ⟨G,hG⟩:∃ G,G=grownCap w (0+n) 0 3:=⟨_,rfl⟩
 rw [← hG] at hrz hGn hGm
 have A:Aside (G≤maxLen):=hGm
 clear hG hGm
 simp only [Nat.zero_add] at hrz hGn
 have h1:¬ ((n:Int) < 0):=by omega
 have h2:((n:Int) > 0):=by omega
 have h3:wrap64 (n:Int)=n:=by unfold wrap64;omega
 have h4:G≤9223372036854775807:=by have:=A.out;unfold maxLen at this;omega
 have B:Aside (i0.size=1):=hz1
 clear hz1 hz2
 go_enter Tryz.func156,Tryz.ntmps156
 go_wp2_with (at_builtin;refine Lib.wpList_append_run _ rfl _ _ _ _ rfl _ _ rfl rfl _ _ (hrz _) ?_)
 all_goals (go_ret;refine ⟨_,rfl,⟨rfl,.inr ⟨_,_,_,rfl,Nat.le_refl _,zhd _ _,Nat.zero_le _,A.out,?_,by simp⟩⟩,rfl,rfl,rfl,by (show w.heap.size≤(w.heap.push _).size);rw [Array.size_push];omega,fun k hk=>zfz _ _ hk⟩)
 all_goals (simp [Builtin.zeroCells];omega)

theorem grow156 (n:Nat) (w:World) (hbig:n * 8≤140737488355328) :
 Calls Tryz.prog 156 #[.slice none 0 0,.int .i64 n] w fun e w'=>∃ v,e=.returned v∧w'.ownsRow w.heap.size 3 1 v 0 []∧(n=0→v=.slice none 0 0)∧Below w.heap.size w w':=by
 rcases Nat.eq_zero_or_pos n with rfl | hn
 ·refine (grow156_zero w).mono fun e w' h=>?_
  obtain ⟨rfl,rfl⟩:=h
  exact ⟨_,rfl,⟨rfl,.inl ⟨rfl,rfl⟩⟩,fun _=>rfl,Below.refl _ _⟩
 ·refine (grow156_pos n w hn hbig).mono fun e w' h=>?_
  obtain ⟨v,rfl,h1,h2⟩:=h
  exact ⟨v,rfl,h1,fun h0=>by omega,h2⟩

set_option maxHeartbeats 8000000 in
set_option maxRecDepth 1000000 in
theorem concat138 (xa:Option Addr) (xb xo N xc:Nat) (ra:Nat→Option Addr) (nn rc:Nat→Nat) (ne:Nat→List Value) (w:World) (hxa:0 < N→xa=some ⟨xb,xo,none⟩) (hN:Hid (N≤maxLen))
 (hc:Aside (∀ j,j < N→w.cell? ⟨xb,xo+j,none⟩=some (.slice (ra j) (nn j) (rc j)))) (hr:Aside (∀ j,j < N→RowAt w 1 (ra j) (nn j) (ne j))) (hbig:Aside (tot nn N * 8≤140737488355328)) :
 Calls Tryz.prog 138 #[.slice xa N xc] w fun e w'=>∃ v,e=.returned v∧w'.ownsRow w.heap.size 3 1 v (tot nn N) (cat ne N)∧(tot nn N=0→v=.slice none 0 0)∧Below w.heap.size w w':=by
 obtain ⟨i0,hi,hz0,hz1,hz2⟩:=info_parts INFO3
 have B:Aside (i0.size=1∧i0.bytes=8):=⟨hz1,hz2⟩
 clear hz1 hz2
 go_enter Tryz.func138,Tryz.ntmps138
 go_wp2
 go_loopg [3,11] N (fun k s c wr=>∃ j,k=N - j∧j≤N∧s=.int .i64 (tot nn j:Nat)∧c=.int .i64 j∧w=wr)
 case atStart=>exact ⟨0,rfl,Nat.zero_le _,rfl,rfl,rfl⟩
 case round =>
  obtain ⟨j,hk,hj,rfl,rfl,rfl⟩:=hrel
  by_cases hlt:j < N
  ·obtain rfl:=hxa (by omega)
   have hx:=hc.out j hlt
   have hlt':(j:Int) < (N:Int):=by omega
   have hw:wrap64 ((tot nn j:Int)+(nn j:Int))=((tot nn (j+1):Nat):Int):=by
    have:=zka nn (i:=j+1) (j:=N) (by omega)
    have:=hbig.out
    exact zpi (by simp only [tot] at *; unfold maxLen;omega)
   have hneg:¬ (((tot nn (j+1):Nat):Int) < 0):=by omega
   go_wp2
   go_roundg (N - (j+1))
   case measure=>omega
   case rel=>exact ⟨j+1,rfl,by omega,rfl,by simp;exact zpi (a:=j) (b:=1) (by have:=hN.out;omega),rfl⟩
  ·obtain rfl:j=N:=by omega
   have hg:=grow156 (tot nn j) w hbig.out
   go_wp2_with (go_at_call 156;refine hg.mono ?_;rintro e w' ⟨v,rfl,hown,hnil,hbel⟩)
   clear hg
   go_loopg [6,27] j (fun k d c wq=>∃ i,k=j - i∧i≤j∧c=.int .i64 i∧wq.ownsRow w.heap.size 3 1 d (tot nn i) (cat ne i)∧(tot nn j=0→d=.slice none 0 0)∧Below w.heap.size w wq)
   case atStart=>exact ⟨0,rfl,Nat.zero_le _,rfl,hown,hnil,hbel⟩
   case round =>
    obtain ⟨i,hk,hi2,rfl,hown2,hnil2,hbel2⟩:=hrel
    by_cases hlt2:i < j
    ·obtain rfl:=hxa (by omega)
     have hx:wr.cell? ⟨xb,xo+i,none⟩=some (.slice (ra i) (nn i) (rc i)):=by
      have:=hc.out i hlt2
      rw [← this]
      exact World.cell?_of_block (hbel2.block xb (World.block_lt_of_cell? _ _ this))
     obtain ⟨v2,w2,hrun,hown3,hgr,hnil3⟩:=zmd (P:=Tryz.prog) w.heap.size 30 30 3 i0 (.int .i64 0) 1 8 Tryz.underlying30 hi hz0 B.out.1 B.out.2 rfl (by decide) _ _ _ hown2 (ra i) (nn i) (rc i) (ne i) (hr.out i hlt2) hbel2.block
      (by have:=zka nn (i:=i+1) (j:=j) (by omega);have:=hbig.out;simp only [tot] at *; unfold maxLen;omega) (by have:=zka nn (i:=i+1) (j:=j) (by omega);have:=hbig.out;simp only [tot] at *; omega) hbel2.size
     have hbel3:Below w.heap.size w w2:=by
      refine hbel2.trans ⟨hgr.os,hgr.tape,hgr.output,hgr.size,fun k hk=>hgr.block k (Nat.lt_of_lt_of_le hk hbel2.size) fun he=>?_⟩
      rcases hown2.2 with ⟨h1,_⟩|⟨g,cap,cur,h1,h2,_⟩
      ·rw [h1] at he;simp [Value.ownBlock] at he
      ·rw [h1] at he;simp [Value.ownBlock] at he;omega
     have hnil4:tot nn j=0→v2=.slice none 0 0:=fun h0=>by
      have:=zka nn (i:=i+1) (j:=j) (by omega)
      rw [hnil3 (by simp only [tot] at *; omega),hnil2 h0]
     have hlt3:(i:Int) < (j:Int):=by omega
     have H:Aside (w2.ownsRow w.heap.size 3 1 v2 (tot nn (i+1)) (cat ne (i+1))∧(tot nn j=0→v2=.slice none 0 0)∧Below w.heap.size w w2):=⟨hown3,hnil4,hbel3⟩
     clear hown3 hnil4 hbel3 hnil3 hgr hown2 hnil2 hbel2 hown hnil hbel
     go_wp2_with (at_builtin;refine Lib.wpList_append_run _ rfl _ _ _ _ rfl _ _ rfl rfl _ _ hrun ?_)
     go_roundg (j - (i+1))
     case measure=>omega
     case rel=>exact ⟨i+1,rfl,by omega,by simp;exact zpi (a:=i) (b:=1) (by have:=hN.out;omega),H.out.1,H.out.2⟩
    ·obtain rfl:i=j:=by omega
     go_wp2
     go_ret
     exact ⟨_,rfl,hown2,hnil2,hbel2⟩

def C138:List AV→Option AV:=specP (X:=List (List Int) × Unit) fun x=>zdn x.1
theorem C138_eq {s:List (List Int)} {y} (h:zdn s=some y):C138 [av .shr s]=some (Res.res y):=zah (X:=List (List Int) × Unit) (F:=fun x=>zdn x.1) (x:=(s,())) h
theorem pc138:PC Tryz.prog 138 C138 :=
 pc_concat (α:=Int) (e:=3) (bytes:=8) ⟨Tryz.f138,Tryz.func138,by kernel_rfl,by kernel_rfl⟩
  fun xa xb xo N xc ra nn rc ne w h1 h2 h3 h4 h5=>concat138 xa xb xo N xc ra nn rc ne w h1 h2 h3 h4 h5
end Go.Proofs

