import Derived.Test.YtfeogbfmndbcfaaEvA7
import Derived.Test.YtfeogbfmndbcfaaEvA10
import Derived.Test.YtfeogbfmndbcfaaProg
import Derived.KernelRfl
import Derived.WalkKit
import Derived.Deep.LoopGhost
import Derived.Lib.Walk
import Derived.Lib.SliceRun
import Derived.Laws.OwnMore
import Derived.Lib.AppendZerosOnto
import Derived.Test.YtfeogbfmndbcfaaEvA8
import Derived.Deep.RegionLaw
import Derived.Shelf.RegionOpenPlain
import Derived.Lib.SlicesDelete
import Derived.Laws.Rows
import Derived.Laws.IdiomStrings
import Derived.Laws.BytesArg
set_option linter.unusedSimpArgs false
set_option linter.unusedVariables false
set_option linter.unnecessarySimpa false
noncomputable section
namespace Go.Ev
def small (n:Nat):Prop:=n≤4000000

theorem findE {α:Type} (p:α→Bool):∀ (xs:List α) (i:Nat),
 foldE (β:=Unit) (ρ:=Int ⊕ Unit) (fun _ i x=>if p x then some (.inr (.inl (i:Int))) else some (.inl ())) (fun _=>some (.inr ())) () i xs =
  some (match xs.findIdx? p with | some j=>.inl ((i+j:Nat):Int) | none=>.inr ())
 | [],i=>rfl
 | x :: xs,i=>by
  rw [foldE]
  by_cases h:p x=true
  ·simp [h,List.findIdx?_cons]
  ·simp only [h,if_false,Bool.false_eq_true]
   rw [findE p xs (i+1),List.findIdx?_cons]
   simp only [h,if_false,Bool.false_eq_true]
   cases xs.findIdx? p with
   | none=>rfl
   | some j=>simp only [Option.map_some,Option.some.injEq,Sum.inl.injEq];omega

theorem index_int (xs:List Int) (v:Int) (hl:small xs.length):slices_Index_int xs v=some (match xs.findIdx? (fun x=>decide (v=x)) with | some j=>(j:Int) | none=>-1):=by
 unfold slices_Index_int
 rw [iter_list xs (fun (_:Unit) i=>i) (fun _ i x=>if decide (v=x)=true then some (.inr (.inl (i:Int))) else some (.inl ())) (fun _=>some (.inr ())) (fun b i x hx=>?_) (fun b=>?_) (),findE]
 ·cases xs.findIdx? (fun x=>decide (v=x)) with
  | none=>rfl
  | some j=>simp
 ·have hlt:=(List.getElem?_eq_some_iff.1 hx).1
  unfold small at hl
  rw [at_nat,hx,addI_eq (by omega) (by omega)]
  simp only [ltI,eqI,zah,Option.bind_some]
  rw [if_pos (by omega)]
  by_cases h:v=x <;> simp [h]
 ·simp [ltI]

theorem contains_int (xs:List Int) (v:Int) (hl:small xs.length):slices_Contains_int xs v=some (decide (v∈xs)):=by
 unfold slices_Contains_int
 rw [index_int xs v hl]
 simp only [Option.bind_some,leI,Option.some.injEq]
 cases h:xs.findIdx? (fun x=>decide (v=x)) with
 | none =>
  rw [List.findIdx?_eq_none_iff] at h
  have:v ∉ xs:=fun hm=>by simpa using h v hm
  simp [this]
 | some j =>
  rw [List.findIdx?_eq_some_iff_getElem] at h
  obtain ⟨hj,hp,_⟩:=h
  have:v∈xs:=by rw [of_decide_eq_true hp];exact List.getElem_mem hj
  simp [this]

theorem within_eq (n lo hi:Int):impl_within n lo hi=some (decide (lo≤n∧n≤hi)):=by
 unfold impl_within
 by_cases h:lo≤n <;> simp [leI,ltI,h]
theorem l1In_eq (n lo hi:Int):spec_l1In n lo hi=some (decide (lo≤n∧n≤hi)):=by
 unfold spec_l1In
 by_cases h:lo≤n <;> simp [leI,ltI,h]

theorem positions_eq:impl_Positions=spec_Positions:=rfl
theorem isTruth_eq (a:Int):impl_IsTruth a=spec_IsTruth a:=by
 unfold impl_IsTruth spec_IsTruth
 simp [within_eq,l1In_eq]
def posF (n:Int):Nat→List Int→List Int
 | _,[]=>[]
 | i,x :: xs=>if x=n then (i:Int) :: posF n (i+1) xs else posF n (i+1) xs
theorem posE (n:Int) (N:Nat) (hN:small N):∀ (xs:List Int) (i:Nat) (acc:List Int),acc.length+xs.length≤N →
 foldE (β:=List Int) (ρ:=List Int) (fun acc i x=>if x=n then (room (acc.length+1) 8).bind fun _=>some (.inl (acc ++ [(i:Int)])) else some (.inl acc)) (fun acc=>some acc) acc i xs=some (acc ++ posF n i xs)
 | [],i,acc,_=>by simp [foldE,posF]
 | x :: xs,i,acc,h=>by
  rw [foldE]
  simp only [List.length_cons] at h
  by_cases hx:x=n
  ·unfold small at hN
   have hr:room (acc.length+1) 8=some ():=by unfold room maxBytes;rw [if_pos (by omega)]
   simp only [hx,if_true,hr,Option.bind_some]
   rw [posE n N hN xs (i+1) (acc ++ [(i:Int)]) (by simp;omega)]
   simp [posF,hx]
  ·simp only [hx,if_false]
   rw [posE n N hN xs (i+1) acc (by omega)]
   simp [posF,hx]
theorem positions (xs:List Int) (n:Int) (hl:small xs.length):spec_Positions xs n=some (posF n 0 xs):=by
 unfold spec_Positions
 rw [iter_list xs (fun (b:List Int) i=>(b,i)) (fun acc i x=>if x=n then (room (acc.length+1) 8).bind fun _=>some (.inl (acc ++ [(i:Int)])) else some (.inl acc)) (fun acc=>some acc) (fun b i x hx=>?_) (fun b=>?_) [],posE n xs.length hl xs 0 [] (by simp)]
 ·simp
 ·have hlt:=(List.getElem?_eq_some_iff.1 hx).1
  unfold small at hl
  simp only [at_nat,hx,ltI,eqI,zah,Option.bind_some]
  rw [if_pos (by omega),addI_eq (by omega) (by omega)]
  by_cases h:x=n
  ·simp only [h,if_true,List.length_singleton]
   cases room (b.length+1) 8 <;> rfl
  ·simp [h]
 ·simp [ltI]
theorem posF_mem (n:Int):∀ (xs:List Int) (i:Nat),0 < (posF n i xs).length ↔ n∈xs
 | [],i=>by simp [posF]
 | x :: xs,i=>by
  simp only [posF]
  by_cases h:x=n
  ·simp [h]
  ·have:=posF_mem n xs (i+1)
   simp only [h,if_false,this,List.mem_cons]
   constructor
   ·exact .inr
   ·rintro (h' | h')
    ·exact absurd h'.symm h
    ·exact h'
theorem l7Has (xs:List Int) (n:Int) (hl:small xs.length):spec_l7Has xs n=some (decide (n∈xs)):=by
 unfold spec_l7Has
 rw [positions xs n hl]
 have:=posF_mem n xs 0
 simp only [Option.bind_some,ltI,Option.some.injEq]
 rw [decide_eq_decide,← this]
 omega

theorem nodup_bound:∀ (n:Nat) (xs:List Int),xs.Nodup→(∀ x∈xs,0≤x∧x < n)→xs.length≤n
 | 0,xs,_,h=>by
  cases xs with
  | nil=>exact Nat.le_refl _
  | cons x xs=>have:=h x (List.mem_cons_self ..);omega
 | n+1,xs,hn,h=>by
  have h1:=nodup_bound n (xs.erase (n:Int)) (hn.erase _) (fun x hx=>by
   have hx':=(hn.mem_erase_iff).1 hx
   have:=h x hx'.2
   have hne:=hx'.1
   omega)
  by_cases hm:(n:Int)∈xs
  ·rw [List.length_erase_of_mem hm] at h1;omega
  ·rw [List.erase_of_not_mem hm] at h1;omega

theorem isCell_eq (h:THeap) (n:Int) (hs:small h.next.length):impl_Heap_isCell h n=some (decide (0≤n∧n < (h.next.length:Int))):=by
 unfold impl_Heap_isCell
 unfold small at hs
 rw [within_eq,subI_eq (by omega) (by omega)]
 simp only [Option.bind_some,Option.some.injEq,decide_eq_decide]
 omega

def fol (next:List Int):Nat→Int→List Int→(List Int) ⊕ Unit
 | 0,_,out=>.inl out
 | f+1,cur,out=>if cur = -1 then .inl out else if cur∈out then .inl out else if 0≤cur∧cur < (next.length:Int) then fol next f (next.getD cur.toNat 0) (out ++ [cur]) else .inr ()

theorem at_in {xs:List Int} {c:Int} (h:0≤c∧c < (xs.length:Int)):at? xs c=some (xs.getD c.toNat 0):=by
 unfold at?
 rw [if_pos h.1]
 have:c.toNat < xs.length:=by omega
 simp [List.getD,List.getElem?_eq_getElem this]
structure Seen (next out:List Int):Prop where
 nd:out.Nodup
 rng:∀ x∈out,0≤x∧x < (next.length:Int)
theorem Seen.len {next out:List Int} (h:Seen next out):out.length≤next.length:=nodup_bound _ _ h.nd h.rng
theorem Seen.push {next out:List Int} (h:Seen next out) {c:Int} (hc:c ∉ out) (hr:0≤c∧c < (next.length:Int)):Seen next (out ++ [c]) :=
 ⟨by rw [List.nodup_append];exact ⟨h.nd,by simp,fun a ha b hb=>by simp at hb;subst hb;rintro rfl;exact hc ha⟩,fun x hx=>by
  rcases List.mem_append.1 hx with hx | hx
  ·exact h.rng x hx
  ·simp at hx;subst hx;exact hr⟩

theorem spec_fol (h:THeap) (hs:small h.next.length):∀ (f:Nat) (cur:Int) (out:List Int),Seen h.next out→h.next.length+1≤f+out.length →
 iter (ρ:=((List Int)) ⊕ (Unit)) (fun s_1:Int × (List Int) =>
  cond (neI s_1.1 (-1))
   ((spec_l7Has s_1.2 s_1.1).bind fun y_12 =>
    cond y_12
     (some (.inr (.inl s_1.2)))
     ((spec_l1In s_1.1 0 (subI (h.next.length:Int) 1)).bind fun y_16 =>
      cond y_16
       ((room (s_1.2.length + [s_1.1].length) 8).bind fun _ =>
        (at? h.next s_1.1).bind fun e_22 =>
         some (.inl (e_22,s_1.2 ++ [s_1.1])))
       (some (.inr (.inr ())))))
   (some (.inr (.inl s_1.2)))) (cur,out)=some (fol h.next f cur out)
 | 0,cur,out,hS,hf=>by have:=hS.len;omega
 | f+1,cur,out,hS,hf=>by
  have hl:=hS.len
  have hs':=hs
  unfold small at hs'
  have hso:small out.length:=by unfold small;omega
  by_cases h1:cur = -1
  ·rw [iter_inr (r:=.inl out) (by simp [neI,h1])]
   simp [fol,h1]
  ·by_cases h2:cur∈out
   ·rw [iter_inr (r:=.inl out) (by simp [neI,h1,l7Has out cur hso,h2])]
    simp [fol,h1,h2]
   ·by_cases h3:0≤cur∧cur < (h.next.length:Int)
    ·have hr:room (out.length+1) 8=some ():=by unfold room maxBytes;rw [if_pos (by omega)]
     rw [iter_inl (s':=(h.next.getD cur.toNat 0,out ++ [cur])) (by
      have h4:0≤cur∧cur≤(h.next.length:Int) - 1:=by omega
      simp only [neI,h1,decide_false,Bool.not_false,cond_true,l7Has out cur hso,h2,Option.bind_some,cond_false,l1In_eq,subI_eq (a:=(h.next.length:Int)) (b:=1) (by omega) (by omega),h4,and_self,decide_true,List.length_singleton,hr,at_in h3]),
      spec_fol h hs f _ _ (hS.push h2 h3) (by simp;omega)]
     simp [fol,h1,h2,h3]
    ·rw [iter_inr (r:=.inr ()) (by
      have h4:¬ (0≤cur∧cur≤(h.next.length:Int) - 1):=by omega
      simp only [neI,h1,decide_false,Bool.not_false,cond_true,l7Has out cur hso,h2,Option.bind_some,cond_false,l1In_eq,subI_eq (a:=(h.next.length:Int)) (b:=1) (by omega) (by omega),h4])]
     simp [fol,h1,h2,h3]

def folL (next:List Int) (c:Int):List Int:=Sum.elim id (fun _=>[]) (fol next (next.length+1) c [])
theorem spec_followed (h:THeap) (hs:small h.next.length) (c:Int):spec_Followed h c=some (folL h.next c):=by
 unfold spec_Followed
 rw [spec_fol h hs (h.next.length+1) c [] ⟨by simp,by simp⟩ (by simp)]
 unfold folL
 cases fol h.next (h.next.length+1) c [] <;> rfl

theorem impl_fol (h:THeap) (hs:small h.next.length) (cell:Int) (hc:cell≠-1):∀ (f:Nat) (cur:Int) (out:List Int),Seen h.next out→h.next.length+1≤f+out.length →
 iter (ρ:=((List Int)) ⊕ (Unit)) (fun s_1:(List Int) × Int =>
  cond (neI s_1.2 (-1))
   ((impl_Heap_isCell h s_1.2).bind fun y_13 =>
    cond y_13
     ((slices_Contains_int s_1.1 s_1.2).bind fun y_17 =>
      cond y_17
       (some (.inr (.inl s_1.1)))
       ((room (s_1.1.length + [s_1.2].length) 8).bind fun _ =>
        (at? h.next s_1.2).bind fun e_23 =>
         some (.inl (s_1.1 ++ [s_1.2],e_23))))
     (some (.inr (.inr ()))))
   (cond (eqI cell (-1))
    ((impl_Heap_isCell h s_1.2).bind fun y_29 =>
     cond y_29
      ((slices_Contains_int s_1.1 s_1.2).bind fun y_33 =>
       cond y_33
        (some (.inr (.inl s_1.1)))
        ((room (s_1.1.length + [s_1.2].length) 8).bind fun _ =>
         (at? h.next s_1.2).bind fun e_39 =>
          some (.inl (s_1.1 ++ [s_1.2],e_39))))
      (some (.inr (.inr ()))))
    (some (.inr (.inl s_1.1))))) (out,cur)=some (fol h.next f cur out)
 | 0,cur,out,hS,hf=>by have:=hS.len;omega
 | f+1,cur,out,hS,hf=>by
  have hl:=hS.len
  have hs':=hs
  unfold small at hs'
  have hso:small out.length:=by unfold small;omega
  by_cases h1:cur = -1
  ·rw [iter_inr (r:=.inl out) (by simp [neI,eqI,h1,hc])]
   simp [fol,h1]
  ·by_cases h3:0≤cur∧cur < (h.next.length:Int)
   ·by_cases h2:cur∈out
    ·rw [iter_inr (r:=.inl out) (by simp [neI,h1,isCell_eq h cur hs,h3,contains_int out cur hso,h2])]
     simp [fol,h1,h2]
    ·have hr:room (out.length+1) 8=some ():=by unfold room maxBytes;rw [if_pos (by omega)]
     rw [iter_inl (s':=(out ++ [cur],h.next.getD cur.toNat 0)) (by
      simp only [neI,h1,decide_false,Bool.not_false,cond_true,isCell_eq h cur hs,h3,contains_int out cur hso,h2,Option.bind_some,cond_false,and_self,decide_true,List.length_singleton,hr,at_in h3]),
      impl_fol h hs cell hc f _ _ (hS.push h2 h3) (by simp;omega)]
     simp [fol,h1,h2,h3]
   ·have h2:cur ∉ out:=fun hm=>h3 (hS.rng cur hm)
    rw [iter_inr (r:=.inr ()) (by simp only [neI,h1,decide_false,Bool.not_false,cond_true,isCell_eq h cur hs,h3,Option.bind_some,cond_false])]
    simp [fol,h1,h2,h3]

theorem impl_followed (h:THeap) (hs:small h.next.length) (c:Int):impl_Followed h c=some (folL h.next c):=by
 unfold impl_Followed
 by_cases hc:c = -1
 ·rw [iter_inr (r:=.inr ()) (by
   have:¬ (0≤c∧c < (h.next.length:Int)):=by omega
   simp [neI,eqI,hc,isCell_eq h _ hs])]
  simp [folL,fol,hc]
 ·rw [impl_fol h hs c hc (h.next.length+1) c [] ⟨by simp,by simp⟩ (by simp)]
  unfold folL
  cases fol h.next (h.next.length+1) c [] <;> rfl
theorem folL_len (next:List Int) (c:Int):(folL next c).length≤next.length:=by
 have key:∀ f cur out,Seen next out→(Sum.elim id (fun _=>[]) (fol next f cur out):List Int).length≤next.length:=by
  intro f
  induction f with
  | zero=>intro cur out hS;exact hS.len
  | succ f ih =>
   intro cur out hS
   simp only [fol]
   split
   ·exact hS.len
   ·split
    ·exact hS.len
    ·rename_i h2
     split
     ·rename_i h3;exact ih _ _ (hS.push h2 h3)
     ·simp
 exact key _ _ _ ⟨by simp,by simp⟩

theorem allE {α ρ:Type} (p:α→Bool) (rf rt:ρ):∀ (xs:List α) (i:Nat),foldE (β:=Unit) (fun _ _ x=>if p x then some (.inl ()) else some (.inr rf)) (fun _=>some rt) () i xs=some (if xs.all p then rt else rf)
 | [],_=>rfl
 | x :: xs,i=>by
  rw [foldE]
  by_cases h:p x=true
  ·simp only [h,if_true]
   rw [allE p rf rt xs (i+1)]
   simp [h]
  ·simp [h]
def inH (next:List Int) (n:Int):Bool:=decide (-1≤n∧n≤(next.length:Int) - 1)
def cellsB (h:THeap):Bool:=h.vars.all (inH h.next) && h.next.all (inH h.next)
theorem l7Cells (h:THeap) (hv:small h.vars.length) (hs:small h.next.length):spec_l7Cells h=some (cellsB h):=by
 have hv':=hv
 have hs':=hs
 unfold small at hv' hs'
 unfold spec_l7Cells
 rw [iter_list h.vars (fun (_:Unit) i=>i) (fun _ _ x=>if inH h.next x then some (.inl ()) else some (.inr (.inl ()))) (fun _=>some (.inr ())) (fun b i x hx=>?_) (fun b=>?_) (),allE]
 ·simp only [Option.bind_some]
  by_cases h1:h.vars.all (inH h.next)=true
  ·rw [if_pos h1]
   simp only [Sum.elim_inr]
   rw [iter_list h.next (fun (_:Unit) i=>i) (fun _ _ x=>if inH h.next x then some (.inl ()) else some (.inr (.inl false))) (fun _=>some (.inr ())) (fun b i x hx=>?_) (fun b=>?_) (),allE]
   ·by_cases h2:h.next.all (inH h.next)=true
    ·simp only [h2,if_true,Option.bind_some,Sum.elim_inr,cellsB,h1,Bool.and_self]
    ·simp only [h2,if_false,Option.bind_some,Sum.elim_inl,cellsB,h1,Bool.true_and,Bool.false_eq_true]
   ·have hlt:=(List.getElem?_eq_some_iff.1 hx).1
    simp only [at_nat,hx,ltI,zah,Option.bind_some,l1In_eq]
    rw [if_pos (by omega),addI_eq (by omega) (by omega),subI_eq (by omega) (by omega)]
    by_cases h3:-1≤x∧x≤(h.next.length:Int) - 1 <;> simp [inH,h3]
   ·simp [ltI]
  ·rw [if_neg h1]
   simp [cellsB,h1]
 ·have hlt:=(List.getElem?_eq_some_iff.1 hx).1
  simp only [at_nat,hx,ltI,zah,Option.bind_some,l1In_eq]
  rw [if_pos (by omega),addI_eq (by omega) (by omega),subI_eq (by omega) (by omega)]
  by_cases h3:-1≤x∧x≤(h.next.length:Int) - 1 <;> simp [inH,h3]
 ·simp [ltI]

theorem indexF {α:Type} (xs:List α) (f:α→Option Bool) (p:α→Bool) (hf:∀ x∈xs,f x=some (p x)) (hl:small xs.length) :
 iter (ρ:=(Int) ⊕ (Unit)) (fun s_1:Int =>
  cond (ltI s_1 (xs.length:Int))
   ((at? xs s_1).bind fun e_12 =>
    (f e_12).bind fun y_17 =>
     cond y_17
      (some (.inr (.inl s_1)))
      (some (.inl (addI s_1 1))))
   (some (.inr (.inr ())))) 0=some (match xs.findIdx? p with | some j=>.inl (j:Int) | none=>.inr ()):=by
 rw [iter_list xs (fun (_:Unit) i=>i) (fun _ i x=>if p x=true then some (.inr (.inl (i:Int))) else some (.inl ())) (fun _=>some (.inr ())) (fun b i x hx=>?_) (fun b=>?_) (),findE]
 ·simp
 ·have hlt:=(List.getElem?_eq_some_iff.1 hx).1
  unfold small at hl
  simp only [at_nat,hx,Option.bind_some,ltI,zah,hf x (List.mem_of_getElem? hx)]
  rw [if_pos (by omega),addI_eq (by omega) (by omega)]
  cases p x <;> simp
 ·simp [ltI]
theorem containsF_of {α:Type} (xs:List α) (p:α→Bool):leI 0 (match xs.findIdx? p with | some j=>(j:Int) | none=>-1)=xs.any p:=by
 cases h:xs.findIdx? p with
 | none =>
  rw [List.findIdx?_eq_none_iff] at h
  have:xs.any p=false:=List.any_eq_false.2 fun x hx=>by simp [h x hx]
  rw [this];rfl
 | some j =>
  rw [List.findIdx?_eq_some_iff_getElem] at h
  obtain ⟨hj,hp,_⟩:=h
  have:xs.any p=true:=List.any_eq_true.2 ⟨_,List.getElem_mem hj,hp⟩
  rw [this]
  simp [leI]
theorem containsFunc_int (xs:List Int) (f:Int→Option Bool) (p:Int→Bool) (hf:∀ x∈xs,f x=some (p x)) (hl:small xs.length):slices_ContainsFunc_int xs f=some (xs.any p):=by
 unfold slices_ContainsFunc_int slices_IndexFunc_int
 rw [indexF xs f p hf hl,← containsF_of]
 cases xs.findIdx? p <;> rfl
theorem room_small {n b:Nat} (hn:n≤4000000) (hb:b≤1000):room n b=some ():=by
 unfold room maxBytes
 have:n * (b+1)≤4000000 * 1001:=Nat.mul_le_mul hn (by omega)
 rw [if_pos (by omega)]
theorem areCells (h:THeap) (hvs:small (h.vars ++ h.next).length) (hv:small h.vars.length) (hs:small h.next.length):impl_Heap_areCells h=some (cellsB h):=by
 have hv':=hv
 have hs':=hs
 unfold small at hv' hs'
 have hc:slices_Concat_int [h.vars,h.next]=some (h.vars ++ h.next):=by
  unfold slices_Concat_int lib_Concat
  rw [room_small (by simp) (by omega),room_small (by unfold small at hvs;simpa using hvs) (by omega)]
  simp
 unfold impl_Heap_areCells
 rw [hc]
 have hp:∀ n:Int,impl_Heap_areCells_1 n h=some (!inH h.next n):=fun n=>by
  unfold impl_Heap_areCells_1
  rw [isCell_eq h n hs]
  by_cases h1:n = -1
  ·simp [neI,h1,inH];omega
  ·simp only [neI,h1,decide_false,Bool.not_false,cond_true,Option.bind_some,Option.some.injEq,inH]
   have:(0≤n∧n < (h.next.length:Int)) ↔ (-1≤n∧n≤(h.next.length:Int) - 1):=by omega
   rw [decide_eq_decide.2 this]
   rfl
 have hcf:slices_ContainsFunc_int (h.vars ++ h.next) (fun x0=>impl_Heap_areCells_1 x0 h)=some ((h.vars ++ h.next).any fun n=>!inH h.next n):=by
  exact containsFunc_int _ _ _ (fun x _=>hp x) hvs
 simp only [Option.bind_some,hcf,cellsB,List.any_append,Option.some.injEq]
 rw [← List.not_all_eq_any_not,← List.not_all_eq_any_not]
 cases h.vars.all (inH h.next) <;> cases h.next.all (inH h.next) <;> rfl

def push (acc:List Int) (x:Int):List Int:=if x∈acc then acc else acc ++ [x]
def Tot {α:Type} (o:Option α) (Q:α→Prop):Prop:=∃ a,o=some a∧Q a
theorem Tot.ret {α:Type} {a:α} {Q:α→Prop} (h:Q a):Tot (some a) Q:=⟨a,rfl,h⟩
theorem Tot.bind {α β:Type} {o:Option α} {f:α→Option β} {P:α→Prop} {Q:β→Prop} (h:Tot o P) (hf:∀ a,P a→Tot (f a) Q):Tot (o.bind f) Q:=by
 obtain ⟨a,rfl,hP⟩:=h
 exact hf a hP
theorem Tot.mono {α:Type} {o:Option α} {P Q:α→Prop} (h:Tot o P) (hq:∀ a,P a→Q a):Tot o Q:=by
 obtain ⟨a,h1,h2⟩:=h
 exact ⟨a,h1,hq a h2⟩
theorem Tot.eq {α:Type} {o:Option α} {a:α} (h:Tot o (· = a)):o=some a:=by
 obtain ⟨b,h1,rfl⟩:=h
 exact h1
theorem Tot.of {α:Type} {o:Option α} {a:α} {Q:α→Prop} (h:o=some a) (hq:Q a):Tot o Q:=⟨a,h,hq⟩
theorem Tot.loop {σ ρ:Type} {step:σ→Option (σ ⊕ ρ)} {Q:ρ→Prop} (I:Nat→σ→Prop) (n:Nat) {s:σ} (h0:I 0 s)
 (h:∀ i s,I i s→i≤n→Tot (step s) (Sum.elim (fun s'=>i < n∧I (i+1) s') Q)):Tot (iter step s) Q:=by
 have key:∀ (k i:Nat) (s:σ),I i s→i+k=n→Tot (iter step s) Q:=by
  intro k
  induction k with
  | zero =>
   intro i s hI hk
   obtain ⟨o,ho,hq⟩:=h i s hI (by omega)
   cases o with
   | inl s'=>exact absurd hq.1 (by omega)
   | inr r=>exact ⟨r,iter_inr ho,hq⟩
  | succ k ih =>
   intro i s hI hk
   obtain ⟨o,ho,hq⟩:=h i s hI (by omega)
   cases o with
   | inl s'=>rw [iter_inl ho];exact ih (i+1) s' hq.2 (by omega)
   | inr r=>exact ⟨r,iter_inr ho,hq⟩
 exact key n 0 s h0 (by omega)
theorem loop_flat {α γ σ:Type} (S:List γ→Int→σ) (lo:Int) (xs:List α) (g:α→List γ) {acc:List γ} {step:σ→Option (σ ⊕ List γ)}
 (h:∀ (i:Nat) x b,xs[i]?=some x→b.length+(g x).length≤acc.length+(xs.flatMap g).length→step (S b (lo+i))=some (.inl (S (b ++ g x) (lo+i+1))))
 (he:∀ b,step (S b (lo+xs.length))=some (.inr b)):iter step (S acc lo)=some (acc ++ xs.flatMap g):=by
 have key:∀ (suf:List α) (i:Nat) (b:List γ),xs.drop i=suf→i+suf.length=xs.length→b.length+(suf.flatMap g).length=acc.length+(xs.flatMap g).length →
  iter step (S b (lo+i))=some (b ++ suf.flatMap g):=by
  intro suf
  induction suf with
  | nil =>
   intro i b _ hi _
   simp only [List.length_nil,Nat.add_zero] at hi
   subst hi
   rw [iter_inr (he b)];simp
  | cons x suf ih =>
   intro i b hd hi hb
   have hx:xs[i]?=some x:=by
    have:=congrArg (fun l=>l[0]?) hd
    simpa using this
   have hd2:xs.drop (i+1)=suf:=by
    have:=congrArg List.tail hd
    simpa using this
   simp only [List.length_cons] at hi
   simp only [List.flatMap_cons,List.length_append] at hb
   rw [iter_inl (h i x b hx (by omega))]
   have:=ih (i+1) (b ++ g x) hd2 (by omega) (by simp only [List.length_append];omega)
   rw [show lo+(i:Int)+1=lo+((i+1:Nat):Int) by omega,this]
   simp
 have:=key xs 0 acc rfl (by simp) rfl
 simpa using this
def Cells (next:List Int):Prop:=∀ x∈next,-1≤x∧x < (next.length:Int)
def lastI (xs:List Int):Int:=xs.getD (xs.length - 1) 0
theorem small_fol {next:List Int} (hs:small next.length) (c:Int):small (folL next c).length:=Nat.le_trans (folL_len next c) hs
theorem clone_int (xs:List Int) (h:small xs.length):slices_Clone_int xs=some xs:=by
 unfold slices_Clone_int lib_Clone
 rw [room_small h (by omega)]
 rfl
theorem take_snoc1 {α:Type} {xs:List α} {i:Nat} (h:i < xs.length):xs.take (i+1)=xs.take i ++ [xs[i]]:=by simp
theorem Tot.flat {α γ σ:Type} (S:List γ→Int→σ) (lo:Int) (xs:List α) (g:α→List γ) {acc:List γ} {step:σ→Option (σ ⊕ List γ)} {s:σ} {Q:List γ→Prop} (hs:s=S acc lo) (hQ:Q (acc ++ xs.flatMap g))
 (h:∀ (i:Nat) x b,xs[i]?=some x→b.length+(g x).length≤acc.length+(xs.flatMap g).length→Tot (step (S b (lo+i))) (· = .inl (S (b ++ g x) (lo+i+1))))
 (he:∀ b,Tot (step (S b (lo+xs.length))) (· = .inr b)):Tot (iter step s) Q:=by
 subst hs
 exact Tot.of (loop_flat S lo xs g (fun i x b hx hb=>(h i x b hx hb).eq) fun b=>(he b).eq) hQ
def t3 (b:Bool):Int:=if b then 2 else 0
theorem l3Of_eq (b:Bool):spec_l3Of b=some (t3 b):=by cases b <;> rfl
theorem truthOf_is (b:Bool):impl_truthOf b=some (t3 b):=by cases b <;> rfl
def nodeOf (h:THeap) (i:Nat):TNode:=⟨h.vars.map fun e=>t3 (decide (e=(i:Int))),h.vars.map fun e=>t3 (decide ((i:Int)∈folL h.next e)),t3 (decide (1 < ((posF (i:Int) 0 h.next).length:Int))),0⟩
def arrowsOf (h:THeap) (i:Nat):List Int:=(List.range h.next.length).map fun j:Nat=>t3 (decide (h.next.getD i 0=(j:Int)))
def strOf (h:THeap):TStructure :=
 if cellsB h then if h.next.length≤10 then if 1≤h.vars.length∧h.vars.length≤4 then ⟨(List.range h.next.length).map (nodeOf h),(List.range h.next.length).flatMap (arrowsOf h)⟩ else ⟨[],[]⟩ else ⟨[],[]⟩ else ⟨[],[]⟩
theorem arrowsOf_len (h:THeap) (i:Nat):(arrowsOf h i).length=h.next.length:=by simp [arrowsOf]
theorem flatMap_len {α β:Type} (xs:List α) (f:α→List β) (n:Nat) (h:∀ x∈xs,(f x).length=n):(xs.flatMap f).length=xs.length * n:=by
 induction xs with
 | nil=>simp
 | cons x xs ih =>
  rw [List.flatMap_cons,List.length_append,h x (List.mem_cons_self ..),ih fun y hy=>h y (List.mem_cons_of_mem _ hy),List.length_cons,Nat.add_mul]
  omega
theorem arrows_len (h:THeap) (m:Nat):((List.range m).flatMap (arrowsOf h)).length=m * h.next.length:=by
 have:=flatMap_len (List.range m) (arrowsOf h) h.next.length fun x _=>arrowsOf_len h x
 simpa using this
theorem spec_structureOf (h:THeap) (hv:small h.vars.length) (hs:small h.next.length):spec_StructureOf h=some (strOf h):=by
 unfold spec_StructureOf strOf
 simp only [l7Cells h hv hs,Option.bind_some,l1In_eq]
 cases hc:cellsB h with
 | false=>rfl
 | true =>
  simp only [cond_true,if_true,ltI,zah]
  by_cases h10:h.next.length≤10
  ·rw [if_neg (by omega),if_pos h10]
   by_cases h4:1≤h.vars.length∧h.vars.length≤4
   ·rw [if_pos (by omega),if_pos h4]
    refine Tot.eq (Tot.bind (P:=(· = ((List.range h.next.length).map (nodeOf h),(List.range h.next.length).flatMap (arrowsOf h)))) (Tot.loop (fun i s=>s=((i:Int),(List.range i).map (nodeOf h),(List.range i).flatMap (arrowsOf h))) h.next.length rfl fun i s hI hi=>?_) fun r hr=>by subst hr;exact Tot.ret rfl)
    subst hI
    by_cases hlt:i < h.next.length
    ·simp only [if_pos (show (i:Int) < h.next.length by omega),positions h.next i hs,l3Of_eq,Option.bind_some]
     refine Tot.bind (P:=(· = ((nodeOf h i).vars,(nodeOf h i).reach))) (Tot.loop (fun j s=>s=((j:Int),(h.vars.take j).map (fun e=>t3 (decide (e=(i:Int)))),(h.vars.take j).map (fun e=>t3 (decide ((i:Int)∈folL h.next e))))) h.vars.length (by simp) fun j s hJ hj=>?_) fun r hr=>?_
     ·subst hJ
      by_cases hjl:j < h.vars.length
      ·simp only [if_pos (show (j:Int) < h.vars.length by omega),at_nat,List.getElem?_eq_getElem hjl,Option.bind_some,spec_followed h hs,l7Has _ _ (small_fol hs _),List.length_map,List.length_take,List.length_singleton,eqI,l3Of_eq]
       rw [room_small (by omega) (by omega),Option.bind_some,Option.bind_some,addI_eq (by omega) (by omega)]
       exact Tot.ret ⟨hjl,by rw [take_snoc1 hjl];simp only [List.map_append,List.map_cons,List.map_nil,Int.natCast_add,Int.cast_ofNat_Int]⟩
      ·rw [if_neg (by simp only;omega)]
       have:j=h.vars.length:=by omega
       subst this
       exact Tot.ret (by simp [nodeOf])
     ·subst hr
      simp only [List.length_map,List.length_range,List.length_singleton]
      rw [room_small (by omega) (by omega),Option.bind_some]
      have hal:=arrows_len h i
      have hal2:i * h.next.length≤10 * 10:=Nat.mul_le_mul (by omega) h10
      refine Tot.bind (P:=(· = (List.range (i+1)).flatMap (arrowsOf h))) (Tot.loop (fun j s=>s=((j:Int),(List.range i).flatMap (arrowsOf h) ++ (List.range j).map fun k:Nat=>t3 (decide (h.next.getD i 0=(k:Int))))) h.next.length (by simp) fun j s hJ hj=>?_) fun r hr=>?_
      ·subst hJ
       by_cases hjl:j < h.next.length
       ·have hg:h.next.getD i 0=h.next[i]:=by simp [List.getD,hlt]
        simp only [if_pos (show (j:Int) < h.next.length by omega),at_nat,List.getElem?_eq_getElem hlt,Option.bind_some,List.length_append,List.length_map,List.length_range,hal,List.length_singleton,eqI,l3Of_eq]
        rw [room_small (by omega) (by omega),Option.bind_some,addI_eq (by omega) (by omega)]
        exact Tot.ret ⟨hjl,by rw [List.range_succ,List.map_append,List.map_cons,List.map_nil,hg,List.append_assoc];rfl⟩
       ·rw [if_neg (by simp only;omega)]
        have:j=h.next.length:=by omega
        subst this
        exact Tot.ret (by simp [List.range_succ,arrowsOf])
      ·subst hr
       rw [addI_eq (by omega) (by omega)]
       exact Tot.ret ⟨hlt,by simp [List.range_succ,nodeOf]⟩
    ·rw [if_neg (by simp only;omega)]
     have:i=h.next.length:=by omega
     subst this
     exact Tot.ret rfl
   ·rw [if_neg (by omega),if_neg h4]
  ·rw [if_pos (by omega),if_neg h10]
theorem impl_structureOf (h:THeap) (hv:small h.vars.length) (hs:small h.next.length) (hvs:small (h.vars ++ h.next).length):impl_StructureOf h=some (strOf h):=by
 unfold impl_StructureOf strOf
 simp only [areCells h hvs hv hs,Option.bind_some,within_eq]
 cases hc:cellsB h with
 | false=>rfl
 | true =>
  simp only [cond_true,if_true,ltI,zah]
  by_cases h10:h.next.length≤10
  ·rw [if_neg (by omega),if_pos h10]
   by_cases h4:1≤h.vars.length∧h.vars.length≤4
   ·rw [if_pos (by omega),if_pos h4]
    refine Tot.eq (Tot.bind (P:=(· = ((List.range h.next.length).map (nodeOf h),(List.range h.next.length).flatMap (arrowsOf h)))) (Tot.loop (fun i s=>s=((i:Int),(List.range i).map (nodeOf h),(List.range i).flatMap (arrowsOf h))) h.next.length rfl fun i s hI hi=>?_) fun r hr=>by subst hr;exact Tot.ret rfl)
    subst hI
    by_cases hlt:i < h.next.length
    ·simp only [if_pos (show (i:Int) < h.next.length by omega),positions_eq,positions h.next i hs,truthOf_is,Option.bind_some]
     refine Tot.bind (P:=(· = ((nodeOf h i).vars,(nodeOf h i).reach))) (Tot.loop (fun j s=>s=((j:Int),(h.vars.take j).map (fun e=>t3 (decide (e=(i:Int)))),(h.vars.take j).map (fun e=>t3 (decide ((i:Int)∈folL h.next e))))) h.vars.length (by simp) fun j s hJ hj=>?_) fun r hr=>?_
     ·subst hJ
      by_cases hjl:j < h.vars.length
      ·simp only [if_pos (show (j:Int) < h.vars.length by omega),at_nat,List.getElem?_eq_getElem hjl,Option.bind_some,impl_followed h hs,contains_int _ _ (small_fol hs _),List.length_map,List.length_take,List.length_singleton,eqI,truthOf_is]
       rw [room_small (by omega) (by omega),Option.bind_some,Option.bind_some,addI_eq (by omega) (by omega)]
       exact Tot.ret ⟨hjl,by rw [take_snoc1 hjl];simp only [List.map_append,List.map_cons,List.map_nil,Int.natCast_add,Int.cast_ofNat_Int]⟩
      ·rw [if_neg (by simp only;omega)]
       have:j=h.vars.length:=by omega
       subst this
       exact Tot.ret (by simp [nodeOf])
     ·subst hr
      simp only [List.length_map,List.length_range,List.length_singleton]
      rw [room_small (by omega) (by omega),Option.bind_some]
      have hal:=arrows_len h i
      have hal2:i * h.next.length≤10 * 10:=Nat.mul_le_mul (by omega) h10
      refine Tot.bind (P:=(· = (List.range (i+1)).flatMap (arrowsOf h))) (Tot.loop (fun j s=>s=((j:Int),(List.range i).flatMap (arrowsOf h) ++ (List.range j).map fun k:Nat=>t3 (decide (h.next.getD i 0=(k:Int))))) h.next.length (by simp) fun j s hJ hj=>?_) fun r hr=>?_
      ·subst hJ
       by_cases hjl:j < h.next.length
       ·have hg:h.next.getD i 0=h.next[i]:=by simp [List.getD,hlt]
        simp only [if_pos (show (j:Int) < h.next.length by omega),at_nat,List.getElem?_eq_getElem hlt,Option.bind_some,List.length_append,List.length_map,List.length_range,hal,List.length_singleton,eqI,truthOf_is]
        rw [room_small (by omega) (by omega),Option.bind_some,addI_eq (by omega) (by omega)]
        exact Tot.ret ⟨hjl,by rw [List.range_succ,List.map_append,List.map_cons,List.map_nil,hg,List.append_assoc];rfl⟩
       ·rw [if_neg (by simp only;omega)]
        have:j=h.next.length:=by omega
        subst this
        exact Tot.ret (by simp [List.range_succ,arrowsOf])
      ·subst hr
       rw [addI_eq (by omega) (by omega)]
       exact Tot.ret ⟨hlt,by simp [List.range_succ,nodeOf]⟩
    ·rw [if_neg (by simp only;omega)]
     have:i=h.next.length:=by omega
     subst this
     exact Tot.ret rfl
   ·rw [if_neg (by omega),if_neg h4]
  ·rw [if_pos (by omega),if_neg h10]
def firstR {ρ υ:Type} (o:Option ρ) (u:υ):ρ ⊕ υ:=match o with | some r=>.inl r | none=>.inr u
theorem Tot.first {ρ υ:Type} {step:Int→Option (Int ⊕ (ρ ⊕ υ))} {Q:ρ ⊕ υ→Prop} (n:Nat) (F:Nat→Option ρ) (u:υ)
 (h:∀ i:Nat,i < n→Tot (step i) (· = (match F i with | none=>.inl ((i:Int)+1) | some r=>.inr (.inl r)))) (he:Tot (step n) (· = .inr (.inr u)))
 (hQ:Q (firstR ((List.range n).findSome? F) u)):Tot (iter step 0) Q:=by
 refine Tot.loop (fun i s=>s=(i:Int)∧∀ j,j < i→F j=none) n ⟨rfl,fun j hj=>absurd hj (Nat.not_lt_zero _)⟩ fun i s hI hi=>?_
 obtain ⟨rfl,hI⟩:=hI
 by_cases hlt:i < n
 ·refine (h i hlt).mono fun o ho=>?_
  subst ho
  cases hF:F i with
  | none =>
   refine ⟨hlt,rfl,fun j hj=>?_⟩
   by_cases hji:j=i
   ·subst hji;exact hF
   ·exact hI j (by omega)
  | some r =>
   have:(List.range n).findSome? F=some r:=by
    rw [List.findSome?_eq_some_iff]
    refine ⟨List.range i,i,(List.range' (i+1) (n - i - 1)),?_,hF,fun j hj=>hI j (List.mem_range.1 hj)⟩
    rw [List.range_eq_range',List.range_eq_range',← List.range'_succ,show n - i - 1+1=n - i by omega]
    have:=@List.range'_append 0 i (n - i) 1
    simp only [Nat.one_mul,Nat.zero_add] at this
    rw [this]
    congr 1
    omega
   rw [this] at hQ
   exact hQ
 ·have:i=n:=by omega
  subst this
  refine he.mono fun o ho=>?_
  subst ho
  have:(List.range i).findSome? F=none:=by
   rw [List.findSome?_eq_none_iff]
   exact fun j hj=>hI j (List.mem_range.1 hj)
  rw [this] at hQ
  exact hQ
theorem findSome_all {ρ:Type} (p:Nat→Bool) (r:ρ):∀ xs:List Nat,xs.findSome? (fun i=>if p i then none else some r)=if xs.all p then none else some r
 | []=>rfl
 | x :: xs=>by
  rw [List.findSome?_cons,findSome_all p r xs]
  cases h:p x <;> simp [h]
theorem Tot.all {ρ υ:Type} {step:Int→Option (Int ⊕ (ρ ⊕ υ))} {Q:ρ ⊕ υ→Prop} (n:Nat) (p:Nat→Bool) (r:ρ) (u:υ)
 (h:∀ i:Nat,i < n→Tot (step i) (· = (if p i then .inl ((i:Int)+1) else .inr (.inl r)))) (he:Tot (step n) (· = .inr (.inr u)))
 (hQ:Q (if (List.range n).all p then .inr u else .inl r)):Tot (iter step 0) Q:=by
 refine Tot.first n (fun i=>if p i then none else some r) u (fun i hi=>?_) he ?_
 ·refine (h i hi).mono fun o ho=>?_
  rw [ho]
  cases p i <;> rfl
 ·rw [findSome_all]
  cases h:(List.range n).all p <;> simpa [h,firstR] using hQ

def wB (a b:Int):Bool:=decide (0≤a∧a≤2) && (decide (0≤b∧b≤2) && (decide (b=1) || decide (a=b)))
def listW (a b:List Int):Bool:=decide (a.length=b.length) && (List.range a.length).all fun i=>wB (a.getD i 0) (b.getD i 0)
theorem getD_at {α:Type} {xs:List α} {i:Nat} (h:i < xs.length) (d:α):at? xs (i:Int)=some (xs.getD i d):=by
 rw [at_nat,List.getElem?_eq_getElem h];simp [List.getD,h]
def zN:TNode:=⟨[],[],0,0⟩
def nodeW (x y:TNode):Bool:=listW x.vars y.vars && (listW x.reach y.reach && (wB x.shared y.shared && wB x.many y.many))
def okN (x:TNode):Prop:=small x.vars.length∧small x.reach.length
def nextV (s:TStructure) (i j:Int):Int :=
 if 0≤i∧i≤(s.nodes.length:Int) - 1 then if 0≤j∧j≤(s.nodes.length:Int) - 1 then if s.next.length=s.nodes.length * s.nodes.length then s.next.getD (i * s.nodes.length+j).toNat 0 else 1 else 1 else 1
theorem sq_small {n:Nat} (h:small n):n * n≤16000000000000:=Nat.le_trans (Nat.mul_le_mul h h) (by decide)
theorem place_in {n:Nat} {i j:Int} (hi:0≤i∧i≤(n:Int) - 1) (hj:0≤j∧j≤(n:Int) - 1):0≤i * n∧i * n+j < ((n * n:Nat):Int):=by
 have h1:i * n≤((n:Int) - 1) * n:=Int.mul_le_mul_of_nonneg_right hi.2 (by omega)
 have h2:0≤i * (n:Int):=Int.mul_nonneg hi.1 (by omega)
 rw [Int.sub_mul,Int.one_mul] at h1
 have h3:((n * n:Nat):Int)=(n:Int) * n:=by simp
 omega
theorem spec_nextOf (s:TStructure) (i j:Int) (hs:small s.nodes.length):spec_NextOf s i j=some (nextV s i j):=by
 unfold spec_NextOf nextV
 have hq:=sq_small hs
 have hs':=hs
 unfold small at hs'
 rw [l1In_eq,l1In_eq,subI_eq (by omega) (by omega)]
 have h3:((s.nodes.length * s.nodes.length:Nat):Int)=(s.nodes.length:Int) * s.nodes.length:=by simp
 rw [mulI_eq (by omega) (by omega)]
 simp only [Option.bind_some,zah,neI,cond_ndec]
 by_cases hi:0≤i∧i≤(s.nodes.length:Int) - 1
 ·rw [if_pos hi,if_pos hi]
  by_cases hj:0≤j∧j≤(s.nodes.length:Int) - 1
  ·rw [if_pos hj,if_pos hj]
   by_cases hn:s.next.length=s.nodes.length * s.nodes.length
   ·obtain ⟨p1,p2⟩:=place_in hi hj
    rw [if_pos (by omega),if_pos hn,mulI_eq (by omega) (by omega),addI_eq (by omega) (by omega),at_in (by omega)]
    rfl
   ·rw [if_neg (by omega),if_neg hn]
  ·rw [if_neg hj,if_neg hj]
 ·rw [if_neg hi,if_neg hi]
theorem impl_nextOf (s:TStructure) (i j:Int) (hs:small s.nodes.length):impl_NextOf s i j=some (nextV s i j):=by
 rw [← spec_nextOf s i j hs]
 unfold impl_NextOf spec_NextOf impl_Structure_isNode
 simp only [within_eq,l1In_eq,Option.bind_some]
def roundB (s t:TStructure) (to:List Int) (j:Nat):Bool :=
 wB (nextV s ((to.length:Int) - 1) j) (nextV t (lastI to) (to.getD j 0)) && (wB (nextV s j ((to.length:Int) - 1)) (nextV t (to.getD j 0) (lastI to)) && !(decide (j+1 < to.length) && (decide (to.getD j 0=lastI to) && !decide ((t.nodes.getD (lastI to).toNat zN).many=1))))
def fitB (s t:TStructure) (to:List Int):Bool:=nodeW (s.nodes.getD (to.length - 1) zN) (t.nodes.getD (lastI to).toNat zN) && (List.range to.length).all (roundB s t to)
def okS (s:TStructure):Prop:=small s.nodes.length∧∀ n∈s.nodes,okN n
theorem at_in' {α:Type} {xs:List α} {c:Int} (h:0≤c∧c < (xs.length:Int)) (d:α):at? xs c=some (xs.getD c.toNat d):=by
 unfold at?
 rw [if_pos h.1]
 have:c.toNat < xs.length:=by omega
 simp [List.getD,List.getElem?_eq_getElem this]
def rngT (t:TStructure) (to:List Int):Prop:=∀ x∈to,0≤x∧x < (t.nodes.length:Int)
def pre (s t:TStructure) (to:List Int):Prop:=to.length≤s.nodes.length∧rngT t to∧∀ i,i < to.length→fitB s t (to.take (i+1))=true
open Wf (wf)
open Sm (sm lg)
theorem cntI_len (xs:List Int):cntF_markIntS xs=xs.length:=by
 unfold cntF_markIntS totC
 induction xs with
 | nil=>rfl
 | cons x xs ih =>
  rw [List.map_cons,List.sum_cons,ih,List.length_cons]
  show 1+xs.length=xs.length+1
  omega
theorem cntI_len' (xs:List Int):cntF_markIntS xs=xs.length:=by
 unfold cntF_markIntS totC
 induction xs with
 | nil=>rfl
 | cons x xs ih =>
  rw [List.map_cons,List.sum_cons,ih,List.length_cons]
  show 1+xs.length=xs.length+1
  omega
theorem cnt_nodes {xs:List TNode} (h:sm xs):cntF_markNodeS xs≤2200000000000:=by
 have:=totC_le cntE_markNodeS 2097154 xs fun x hx=>by
  have hx:=h.2 x hx
  unfold cntE_markNodeS
  rw [cntI_len',cntI_len']
  have:=hx.1.1
  have:=hx.2.1
  omega
 refine Nat.le_trans this (Nat.le_trans (Nat.mul_le_mul_right _ h.1) (by decide))
theorem cnt_str {s:TStructure} (h:sm s):cntF_markNodeS s.nodes+cntF_markIntS s.next≤2200001048576:=by
 have h1:=cnt_nodes h.1
 rw [cntI_len']
 have:=h.2.1
 omega
open Wf (wf)
open Sm (sm lg)
open Wf (wf)
open Sm (sm lg)
open Wf (wf)
open Sm (sm lg)
def truthsB (xs:List Int):Bool:=xs.all fun x=>decide (0≤x∧x≤2)
theorem all_range {α:Type} (xs:List α) (p:α→Bool) (d:α):(List.range xs.length).all (fun i=>p (xs.getD i d))=xs.all p:=by
 have h:(List.range xs.length).map (fun i=>xs.getD i d)=xs:=by
  apply List.ext_getElem
  ·simp
  ·intro i h1 h2
   simp [List.getD,h2]
 have h2:((List.range xs.length).map (fun i=>xs.getD i d)).all p=(List.range xs.length).all (fun i=>p (xs.getD i d)):=by rw [List.all_map];rfl
 rw [h] at h2
 exact h2.symm
theorem spec_truths (xs:List Int) (h:small xs.length):spec_l12Truths xs=some (truthsB xs):=by
 unfold small at h
 unfold spec_l12Truths
 refine Tot.eq (Tot.bind (P:=(· = if truthsB xs then .inr () else .inl ())) (Tot.all xs.length (fun i=>decide (0≤xs.getD i 0∧xs.getD i 0≤2)) () () (fun i hi=>?_) ?_ ?_) fun r hr=>?_)
 ·simp only [ltI,zah,getD_at hi 0,Option.bind_some,spec_IsTruth,l1In_eq]
  rw [if_pos (by omega),addI_eq (by omega) (by omega)]
  by_cases hc:0≤xs.getD i 0∧xs.getD i 0≤2
  ·rw [if_pos hc,if_pos (by simpa using hc)];exact Tot.ret rfl
  ·rw [if_neg hc,if_neg (by simpa using hc)];exact Tot.ret rfl
 ·simp only [ltI,zah]
  rw [if_neg (by omega)]
  exact Tot.ret rfl
 ·rw [all_range xs (fun x=>decide (0≤x∧x≤2)) 0]
  rfl
 ·subst hr
  cases truthsB xs <;> exact Tot.ret rfl
theorem impl_truths (xs:List Int) (h:small xs.length):impl_areTruths xs=some (truthsB xs):=by
 unfold impl_areTruths
 rw [containsFunc_int xs (fun x0=>impl_areTruths_1 x0) (fun x=>!decide (0≤x∧x≤2)) (fun x _=>by unfold impl_areTruths_1 impl_IsTruth;rw [within_eq];rfl) h]
 simp only [Option.bind_some,Option.some.injEq,notB,truthsB]
 rw [List.not_any_eq_all_not]
 congr 1
 funext x
 simp
def nodeOkB (vars:Int) (x:TNode):Bool:=decide ((x.vars.length:Int)=vars) && (decide ((x.reach.length:Int)=vars) && (truthsB x.vars && (truthsB x.reach && (decide (0≤x.shared∧x.shared≤2) && decide (0≤x.many∧x.many≤1)))))
def isStrB (vars:Int) (s:TStructure):Bool:=decide (1≤vars∧vars≤4) && (decide (s.nodes.length≤10) && (decide (s.next.length=s.nodes.length * s.nodes.length) && (truthsB s.next && s.nodes.all (nodeOkB vars))))
structure shortS (s:TStructure):Prop where
 n:small s.nodes.length
 x:small s.next.length
 e:∀ y∈s.nodes,okN y
theorem shortS.ok {s:TStructure} (h:shortS s):okS s:=⟨h.n,h.e⟩
theorem short_sm {s:TStructure} (h:sm s):shortS s:=⟨by have:=h.1.1;unfold small;omega,by have:=h.2.1;unfold small;omega,fun y hy=>⟨by have:=(h.1.2 y hy).1.1;unfold small;omega,by have:=(h.1.2 y hy).2.1;unfold small;omega⟩⟩
theorem spec_isStructure (vars:Int) (s:TStructure) (h:shortS s):spec_IsStructure vars s=some (isStrB vars s):=by
 have hn:=h.n
 have hq:=sq_small hn
 unfold small at hn
 unfold spec_IsStructure
 refine Tot.eq (Tot.bind (P:=(· = if s.nodes.all (nodeOkB vars) then .inr () else .inl ())) (Tot.all s.nodes.length (fun i=>nodeOkB vars (s.nodes.getD i zN)) () () (fun i hi=>?_) ?_ ?_) fun r hr=>?_)
 ·have hm:s.nodes.getD i zN∈s.nodes:=by simp [List.getD,hi]
  have ho:=h.e _ hm
  simp only [ltI,zah,getD_at hi zN,Option.bind_some]
  rw [if_pos (by omega),addI_eq (by omega) (by omega)]
  generalize s.nodes.getD i zN=y at *
  simp only [neI,cond_ndec,spec_truths _ ho.1,spec_truths _ ho.2,spec_IsTruth,l1In_eq,Option.bind_some,zah]
  unfold nodeOkB
  by_cases h1:(y.vars.length:Int)=vars
  ·rw [if_pos h1,decide_eq_true h1]
   by_cases h2:(y.reach.length:Int)=vars
   ·rw [if_pos h2,decide_eq_true h2]
    cases truthsB y.vars <;> cases truthsB y.reach <;> try exact Tot.ret rfl
    simp only [cond_true,Bool.true_and]
    by_cases h3:0≤y.shared∧y.shared≤2
    ·rw [if_pos h3,decide_eq_true h3]
     by_cases h4:0≤y.many∧y.many≤1
     ·rw [if_pos h4,decide_eq_true h4];exact Tot.ret rfl
     ·rw [if_neg h4,decide_eq_false h4];exact Tot.ret rfl
    ·rw [if_neg h3,decide_eq_false h3];exact Tot.ret rfl
   ·rw [if_neg h2,decide_eq_false h2];exact Tot.ret rfl
  ·rw [if_neg h1,decide_eq_false h1];exact Tot.ret rfl
 ·simp only [ltI,zah]
  rw [if_neg (by omega)]
  exact Tot.ret rfl
 ·rw [all_range s.nodes (nodeOkB vars) zN]
 ·subst hr
  have h3:((s.nodes.length * s.nodes.length:Nat):Int)=(s.nodes.length:Int) * s.nodes.length:=by simp
  unfold isStrB
  cases hall:s.nodes.all (nodeOkB vars) with
  | false=>simp only [Bool.and_false];exact Tot.ret rfl
  | true =>
   simp only [if_true,Sum.elim_inr,l1In_eq,Option.bind_some,zah,leI,eqI,spec_truths _ h.x,Bool.and_true]
   rw [mulI_eq (by omega) (by omega)]
   by_cases h1:1≤vars∧vars≤4
   ·rw [if_pos h1,decide_eq_true h1,Bool.true_and]
    by_cases h2:s.nodes.length≤10
    ·rw [if_pos (by omega),decide_eq_true h2,Bool.true_and]
     by_cases h4:s.next.length=s.nodes.length * s.nodes.length
     ·rw [if_pos (by omega),decide_eq_true h4,Bool.true_and];exact Tot.ret rfl
     ·rw [if_neg (by omega),decide_eq_false h4];exact Tot.ret rfl
    ·rw [if_neg (by omega),decide_eq_false h2];exact Tot.ret rfl
   ·rw [if_neg h1,decide_eq_false h1];exact Tot.ret rfl
theorem containsFunc_node (xs:List TNode) (f:TNode→Option Bool) (p:TNode→Bool) (hf:∀ x∈xs,f x=some (p x)) (hl:small xs.length):slices_ContainsFunc_Node xs f=some (xs.any p):=by
 unfold slices_ContainsFunc_Node slices_IndexFunc_Node
 rw [indexF xs f p hf hl,← containsF_of]
 cases xs.findIdx? p <;> rfl
theorem impl_isStructure (vars:Int) (s:TStructure) (h:shortS s):impl_IsStructure vars s=some (isStrB vars s):=by
 have hn:=h.n
 have hq:=sq_small hn
 unfold small at hn
 have h3:((s.nodes.length * s.nodes.length:Nat):Int)=(s.nodes.length:Int) * s.nodes.length:=by simp
 have hc:=containsFunc_node s.nodes (fun x0=>impl_IsStructure_1 x0 vars) (fun y=>!nodeOkB vars y) (fun y hy=>by
  have ho:=h.e y hy
  unfold impl_IsStructure_1 nodeOkB
  simp only [neI,cond_ndec,impl_truths _ ho.1,impl_truths _ ho.2,impl_IsTruth,within_eq,Option.bind_some,zah]
  by_cases h1:(y.vars.length:Int)=vars
  ·rw [if_pos h1,decide_eq_true h1]
   by_cases h2:(y.reach.length:Int)=vars
   ·rw [if_pos h2,decide_eq_true h2]
    cases truthsB y.vars <;> cases truthsB y.reach <;> try rfl
    simp only [cond_true,Bool.true_and]
    by_cases h3:0≤y.shared∧y.shared≤2
    ·rw [if_pos h3,decide_eq_true h3]
     by_cases h4:y.many=0
     ·rw [if_pos h4];simp [h4]
     ·rw [if_neg h4]
      by_cases h5:y.many=1
      ·simp [h5]
      ·have:¬ (0≤y.many∧y.many≤1):=by omega
       simp [h5,this]
    ·rw [if_neg h3,decide_eq_false h3];rfl
   ·rw [if_neg h2,decide_eq_false h2];rfl
  ·rw [if_neg h1,decide_eq_false h1];rfl) h.n
 unfold impl_IsStructure isStrB
 simp only [within_eq,Option.bind_some,zah,ltI,neI,cond_ndec,impl_truths _ h.x]
 rw [mulI_eq (by omega) (by omega)]
 by_cases h1:1≤vars∧vars≤4
 ·rw [if_pos h1,decide_eq_true h1,Bool.true_and]
  by_cases h2:s.nodes.length≤10
  ·rw [if_neg (by omega),decide_eq_true h2,Bool.true_and]
   by_cases h4:s.next.length=s.nodes.length * s.nodes.length
   ·rw [if_pos (by omega),decide_eq_true h4,Bool.true_and]
    cases truthsB s.next with
    | false=>rfl
    | true =>
     rw [cond_true,hc]
     simp only [Option.bind_some,notB,Bool.true_and,Option.some.injEq]
     rw [List.not_any_eq_all_not]
     congr 1
     funext y
     simp
   ·rw [if_neg (by omega),decide_eq_false h4];rfl
  ·rw [if_pos (by omega),decide_eq_false h2];rfl
 ·rw [if_neg h1,decide_eq_false h1];rfl
theorem copyNode (y:TNode) (h:okN y):spec_l12CopyNode y=some y:=by
 have h1:=h.1
 have h2:=h.2
 unfold small at h1 h2
 unfold spec_l12CopyNode
 simp only [List.length_nil,Nat.zero_add]
 rw [room_small (by omega) (by omega),Option.bind_some,room_small (by omega) (by omega)]
 rfl
theorem ownNode (y:TNode) (h:okN y):impl_Node_own y=some y:=by
 unfold impl_Node_own
 rw [clone_int _ h.1,Option.bind_some,clone_int _ h.2]
 rfl
theorem spec_copy (s:TStructure) (h:shortS s):spec_l12Copy s=some s:=by
 have hn:=h.n
 have hx:=h.x
 unfold small at hn hx
 unfold spec_l12Copy
 simp only [List.length_nil,Nat.zero_add]
 rw [room_small (by omega) (by omega),Option.bind_some]
 refine Tot.eq (Tot.bind (P:=(· = s.nodes)) (Tot.loop (fun i q=>q=((i:Int),s.nodes.take i)) s.nodes.length (by simp) fun i q hI hi=>?_) fun r hr=>by subst hr;exact Tot.ret rfl)
 subst hI
 by_cases hlt:i < s.nodes.length
 ·simp only [ltI,zah,at_nat,List.getElem?_eq_getElem hlt,Option.bind_some,copyNode _ (h.e _ (List.getElem_mem hlt)),List.length_take,List.length_singleton]
  rw [if_pos (by omega),room_small (by omega) (by omega),Option.bind_some,addI_eq (by omega) (by omega)]
  exact Tot.ret ⟨hlt,by rw [take_snoc1 hlt];rfl⟩
 ·simp only [ltI,zah]
  rw [if_neg (by omega)]
  exact Tot.ret (List.take_of_length_le (by omega))
theorem impl_owns (s:TStructure) (h:shortS s):impl_Structure_own s=some s:=by
 have hn:=h.n
 unfold small at hn
 unfold impl_Structure_own
 rw [clone_int _ h.x,Option.bind_some]
 refine Tot.eq (Tot.bind (P:=(· = s.nodes)) (Tot.loop (fun i q=>q=((i:Int),s.nodes.take i)) s.nodes.length (by simp) fun i q hI hi=>?_) fun r hr=>by subst hr;exact Tot.ret rfl)
 subst hI
 by_cases hlt:i < s.nodes.length
 ·simp only [ltI,zah,at_nat,List.getElem?_eq_getElem hlt,Option.bind_some,ownNode _ (h.e _ (List.getElem_mem hlt)),List.length_take,List.length_singleton]
  rw [if_pos (by omega),room_small (by omega) (by omega),Option.bind_some,addI_eq (by omega) (by omega)]
  exact Tot.ret ⟨hlt,by rw [take_snoc1 hlt];rfl⟩
 ·simp only [ltI,zah]
  rw [if_neg (by omega)]
  exact Tot.ret (List.take_of_length_le (by omega))
open Wf (wf)
open Sm (sm lg)
def frm (n:Nat) (t:Int) (i:Nat):Int:=if i=n then t else (i:Int)
open Wf (wf)
open Sm (sm lg)
structure Foc (s:TStructure) (b:Int) (ts:List Int):Prop where
 sh:shortS s
 n10:s.nodes.length≤10
 sq:s.next.length=s.nodes.length * s.nodes.length
 b:0≤b∧b < (s.nodes.length:Int)
 t:∀ t∈ts,0≤t∧t < (s.nodes.length:Int)
 l:ts.length≤10
def varsF (s:TStructure):Int:=match s.nodes with | []=>0 | x :: _=>(x.vars.length:Int)
theorem vars_eq (s:TStructure):spec_l15Vars s=some (varsF s):=by
 unfold spec_l15Vars varsF
 cases h:s.nodes with
 | nil=>rfl
 | cons x xs =>
  simp only [eqI,zah]
  rw [if_neg (by simp only [List.length_cons];omega),show (0:Int)=((0:Nat):Int) from rfl,at_nat]
  rfl
theorem variables_eq:impl_variables=spec_l15Vars:=rfl
end Go.Ev


namespace Go.Ev
open Wf (wf)
open Sm (sm lg)

structure okB (s:TStructure):Prop where
 sh:shortS s
 v:1≤varsF s∧varsF s≤4
 n:s.nodes.length≤10
 z:1≤s.nodes.length
 e:∀ x∈s.nodes,(x.vars.length:Int)=varsF s∧(x.reach.length:Int)=varsF s
theorem okB_of {s:TStructure} (h:shortS s) (hs:isStrB (varsF s) s=true) (h0:¬ s.nodes.length=0):okB s:=by
 unfold isStrB at hs
 simp only [Bool.and_eq_true,decide_eq_true_eq,List.all_eq_true] at hs
 refine ⟨h,hs.1,hs.2.1,by omega,fun x hx=>?_⟩
 have:=hs.2.2.2.2 x hx
 unfold nodeOkB at this
 simp only [Bool.and_eq_true,decide_eq_true_eq] at this
 exact ⟨this.1,this.2.1⟩
theorem node_mem {s:TStructure} {i:Int} (h:0≤i∧i < (s.nodes.length:Int)):s.nodes.getD i.toNat zN∈s.nodes:=by
 have:i.toNat < s.nodes.length:=by omega
 simp [List.getD,this]

def predV (s:TStructure) (k i:Int):Int :=
 if k≤varsF s - 1 then (s.nodes.getD i.toNat zN).vars.getD k.toNat 0 else if k≤2 * varsF s - 1 then (s.nodes.getD i.toNat zN).reach.getD (k - varsF s).toNat 0 else (s.nodes.getD i.toNat zN).shared
theorem l13At_in {l:List Int} {k:Int} (hl:small l.length) (h:0≤k∧k < (l.length:Int)):spec_l13At l k=some (l.getD k.toNat 0):=by
 unfold small at hl
 unfold spec_l13At
 rw [l1In_eq,subI_eq (by omega) (by omega)]
 simp only [Option.bind_some,zah]
 rw [if_pos (by omega),at_in' h 0]
 rfl
theorem spec_pred {s:TStructure} (hs:okB s) {k i:Int} (hi:0≤i∧i < (s.nodes.length:Int)) (hk:0≤k∧k≤2 * varsF s):spec_PredicateAt s k i=some (predV s k i):=by
 have hv:=hs.v
 have hn:=hs.n
 obtain ⟨e1,e2⟩:=hs.e _ (node_mem hi)
 obtain ⟨o1,o2⟩:=hs.sh.e _ (node_mem hi)
 unfold spec_PredicateAt predV
 rw [vars_eq,Option.bind_some,l1In_eq,l1In_eq,l1In_eq,subI_eq (by omega) (by omega),subI_eq (by omega) (by omega),mulI_eq (by omega) (by omega),subI_eq (by omega) (by omega)]
 simp only [Option.bind_some,zah]
 rw [if_pos (by omega)]
 by_cases h1:k≤varsF s - 1
 ·rw [if_pos (by omega),if_pos h1,at_in' hi zN,Option.bind_some,l13At_in o1 (by omega)]
  rfl
 ·rw [if_neg (by omega),if_neg h1]
  by_cases h2:k≤2 * varsF s - 1
  ·rw [if_pos (by omega),if_pos h2,at_in' hi zN,Option.bind_some,subI_eq (by omega) (by omega),l13At_in o2 (by omega)]
   rfl
  ·rw [if_neg (by omega),if_neg h2]
   simp only [eqI,zah]
   rw [if_pos (by omega),at_in' hi zN]
   rfl
theorem impl_pred {s:TStructure} (hs:okB s) {k i:Int} (hi:0≤i∧i < (s.nodes.length:Int)) (hk:0≤k∧k≤2 * varsF s):impl_PredicateAt s k i=some (predV s k i):=by
 have hv:=hs.v
 have hn:=hs.n
 obtain ⟨e1,e2⟩:=hs.e _ (node_mem hi)
 unfold impl_PredicateAt predV impl_Structure_isNode
 rw [variables_eq,vars_eq,Option.bind_some,within_eq,subI_eq (by omega) (by omega),mulI_eq (by omega) (by omega)]
 simp only [Option.bind_some,zah,eqI,at_in' hi zN,within_eq]
 rw [if_pos (by omega)]
 by_cases h3:k=2 * varsF s
 ·rw [if_pos h3,if_neg (by omega),if_neg (by omega)]
 ·rw [if_neg h3,subI_eq (by omega) (by omega),subI_eq (by omega) (by omega),subI_eq (by omega) (by omega)]
  by_cases h1:k≤varsF s - 1
  ·rw [if_pos (by omega),if_pos h1,if_pos (by omega),at_in' (by omega) 0]
   rfl
  ·rw [if_neg (by omega),if_neg h1,if_pos (by omega),subI_eq (by omega) (by omega),subI_eq (by omega) (by omega),if_pos (by omega),at_in' (by omega) 0,if_pos (by omega)]
   rfl

def txtF (a:Int):ByteArray:=if 0≤a∧a≤2 then (⟨#[48,63,49]⟩:ByteArray).extract a.toNat (a+1).toNat else ⟨#[]⟩
theorem spec_txt (a:Int):spec_TruthText a=some (txtF a):=by
 unfold spec_TruthText txtF spec_IsTruth
 rw [l1In_eq]
 simp only [Option.bind_some,zah]
 by_cases h:0≤a∧a≤2
 ·rw [if_pos h,if_pos h,addI_eq (by omega) (by omega)]
  unfold sub?
  rw [if_pos ⟨h.1,by omega,by show a+1≤3;omega⟩]
  rfl
 ·rw [if_neg h,if_neg h]
theorem impl_txt (a:Int):impl_TruthText a=some (txtF a):=by
 rw [← spec_txt]
 unfold impl_TruthText spec_TruthText
 rw [isTruth_eq]
theorem txt_size (a:Int):(txtF a).size≤1:=by
 unfold txtF
 split
 ·rw [ByteArray.size_extract]
  have:(⟨#[48,63,49]⟩:ByteArray).size=3:=rfl
  omega
 ·exact Nat.zero_le _
def nameK (s:TStructure) (i:Int):Nat→ByteArray
 | 0=>⟨#[]⟩
 | k+1=>nameK s i k ++ txtF (predV s k i)
theorem nameK_size (s:TStructure) (i:Int):∀ k,(nameK s i k).size≤k
 | 0=>Nat.le_refl _
 | k+1=>by
  rw [nameK,ByteArray.size_append]
  have:=nameK_size s i k
  have:=txt_size (predV s k i)
  omega
def nameF (s:TStructure) (i:Int):ByteArray:=nameK s i (2 * varsF s+1).toNat
theorem spec_name {s:TStructure} (hs:okB s) {i:Int} (hi:0≤i∧i < (s.nodes.length:Int)):spec_NodeName s i=some (nameF s i):=by
 have hv:=hs.v
 have hn:=hs.n
 have hz:=hs.z
 have hcp:spec_CountPredicates s=some (2 * varsF s+1):=by
  unfold spec_CountPredicates
  simp only [eqI,zah]
  rw [if_neg (by omega),vars_eq,Option.bind_some,mulI_eq (by omega) (by omega),addI_eq (by omega) (by omega)]
 unfold spec_NodeName
 rw [l1In_eq,subI_eq (by omega) (by omega)]
 simp only [Option.bind_some,zah,hcp]
 rw [if_pos (by omega)]
 refine Tot.eq (Tot.bind (P:=(· = nameF s i)) (Tot.loop (fun k q=>q=(nameK s i k,(k:Int))) (2 * varsF s+1).toNat rfl fun k q hI hk=>?_) fun r hr=>by subst hr;exact Tot.ret rfl)
 subst hI
 by_cases hlt:(k:Int) < 2 * varsF s+1
 ·simp only [ltI,zah]
  rw [if_pos hlt,spec_pred hs hi (by omega),Option.bind_some,spec_txt,Option.bind_some]
  have h1:=nameK_size s i k
  have h2:=txt_size (predV s k i)
  unfold catS
  rw [if_pos (by omega),Option.bind_some,addI_eq (by omega) (by omega)]
  exact Tot.ret ⟨by omega,rfl⟩
 ·simp only [ltI,zah]
  rw [if_neg hlt]
  have:k=(2 * varsF s+1).toNat:=by omega
  subst this
  exact Tot.ret rfl
theorem impl_name {s:TStructure} (hs:okB s) {i:Int} (hi:0≤i∧i < (s.nodes.length:Int)):impl_NodeName s i=some (nameF s i):=by
 have hv:=hs.v
 have hn:=hs.n
 have hz:=hs.z
 have hcp:impl_CountPredicates s=some (2 * varsF s+1):=by
  unfold impl_CountPredicates
  simp only [eqI,zah]
  rw [if_neg (by omega),variables_eq,vars_eq,Option.bind_some,mulI_eq (by omega) (by omega),addI_eq (by omega) (by omega)]
 unfold impl_NodeName impl_Structure_isNode
 rw [within_eq,subI_eq (by omega) (by omega)]
 simp only [Option.bind_some,zah,hcp]
 rw [if_pos (by omega)]
 refine Tot.eq (Tot.bind (P:=(· = nameF s i)) (Tot.loop (fun k q=>q=(nameK s i k,(k:Int))) (2 * varsF s+1).toNat rfl fun k q hI hk=>?_) fun r hr=>by subst hr;exact Tot.ret rfl)
 subst hI
 by_cases hlt:(k:Int) < 2 * varsF s+1
 ·simp only [ltI,zah]
  rw [if_pos hlt,impl_pred hs hi (by omega),Option.bind_some,impl_txt,Option.bind_some]
  have h1:=nameK_size s i k
  have h2:=txt_size (predV s k i)
  unfold catS
  rw [if_pos (by omega),Option.bind_some,addI_eq (by omega) (by omega)]
  exact Tot.ret ⟨by omega,rfl⟩
 ·simp only [ltI,zah]
  rw [if_neg hlt]
  have:k=(2 * varsF s+1).toNat:=by omega
  subst this
  exact Tot.ret rfl
theorem name_size {s:TStructure} (hs:okB s) (i:Int):(nameF s i).size≤9:=by
 have:=nameK_size s i (2 * varsF s+1).toNat
 have:=hs.v
 unfold nameF
 omega
def namesL (s:TStructure) (k:Nat):List ByteArray:=(List.range k).map fun i:Nat=>nameF s (i:Int)
theorem namesT_L {s:TStructure} {nm:TStructure→Int→Option ByteArray} (h:∀ i:Nat,i < s.nodes.length→nm s (i:Int)=some (nameF s (i:Int))):∀ k,k≤s.nodes.length→namesT (nm s) k=some (namesL s k)
 | 0,_=>rfl
 | k+1,hk=>by
  rw [namesT,namesT_L h k (by omega),Option.bind_some,h k (by omega),Option.bind_some]
  unfold namesL
  rw [List.range_succ,List.map_append]
  rfl
theorem names_few {s:TStructure} (hs:okB s):few (namesL s s.nodes.length)=true:=by
 unfold few
 rw [Bool.and_eq_true,List.all_eq_true]
 have hn:=hs.n
 refine ⟨by simp [namesL];omega,fun x hx=>?_⟩
 unfold namesL at hx
 obtain ⟨i,_,rfl⟩:=List.mem_map.1 hx
 have:=name_size hs (i:Int)
 simp
 omega
end Go.Ev


namespace Go.Ev
open Wf (wf)
open Sm (sm lg)

def joinV (a b:Int):Int:=if a=b then (if 0≤a∧a≤2 then a else 1) else 1
theorem spec_join (a b:Int):spec_JoinOf a b=some (joinV a b):=by
 unfold spec_JoinOf joinV spec_IsTruth
 rw [l1In_eq]
 simp only [Option.bind_some,zah,neI,cond_ndec]
 by_cases h:a=b
 ·rw [if_pos h,if_pos h]
  by_cases h1:0≤a∧a≤2
  ·rw [if_pos h1,if_pos h1]
  ·rw [if_neg h1,if_neg h1]
 ·rw [if_neg h,if_neg h]
theorem impl_join (a b:Int):impl_JoinOf a b=some (joinV a b):=by
 rw [← spec_join]
 unfold impl_JoinOf spec_JoinOf
 rw [isTruth_eq]
def rowG (s:TStructure) (i:Int) (b:List Int) (acc:Int):Int:=b.foldl (fun acc j=>joinV acc (nextV s i j)) acc
def nextG (s:TStructure) (a b:List Int):Int:=a.foldl (fun acc i=>rowG s i b acc) (nextV s (a.getD 0 0) (b.getD 0 0))
theorem at_first {α:Type} {xs:List α} (h:xs≠[]) (d:α):at? xs 0=some (xs.getD 0 d):=by
 have:=List.length_pos_iff.2 h
 exact at_in' (by omega) d
theorem spec_next (s:TStructure) {a b:List Int} (hs:small s.nodes.length) (ha:small a.length) (hb:small b.length) (a0:a≠[]) (b0:b≠[]):spec_l17Next s a b=some (nextG s a b):=by
 unfold small at ha hb
 unfold spec_l17Next
 rw [at_first a0 0,at_first b0 0]
 simp only [Option.bind_some,spec_nextOf s _ _ hs]
 refine Tot.eq (Tot.bind (P:=(· = nextG s a b)) (Tot.loop (fun i q=>q=((a.take i).foldl (fun acc i=>rowG s i b acc) (nextV s (a.getD 0 0) (b.getD 0 0)),(i:Int))) a.length rfl fun i q hI hi=>?_) fun r hr=>by subst hr;exact Tot.ret rfl)
 subst hI
 by_cases hlt:i < a.length
 ·simp only [ltI,zah]
  rw [if_pos (by omega)]
  generalize hq:(a.take i).foldl (fun acc i=>rowG s i b acc) (nextV s (a.getD 0 0) (b.getD 0 0))=acc
  refine Tot.bind (P:=(· = rowG s a[i] b acc)) (Tot.loop (fun j q=>q=(rowG s a[i] (b.take j) acc,(j:Int))) b.length rfl fun j q hJ hj=>?_) fun r hr=>?_
  ·subst hJ
   by_cases hjl:j < b.length
   ·simp only [at_nat,List.getElem?_eq_getElem hlt,List.getElem?_eq_getElem hjl,Option.bind_some,spec_join]
    rw [if_pos (by omega),addI_eq (by omega) (by omega)]
    exact Tot.ret ⟨hjl,by rw [take_snoc1 hjl];unfold rowG;rw [List.foldl_append];rfl⟩
   ·simp only
    rw [if_neg (by omega)]
    have:j=b.length:=by omega
    subst this
    exact Tot.ret (by show _=_;rw [List.take_length])
  ·subst hr
   rw [addI_eq (by omega) (by omega)]
   exact Tot.ret ⟨hlt,by rw [take_snoc1 hlt,List.foldl_append,hq];rfl⟩
 ·simp only [ltI,zah]
  rw [if_neg (by omega)]
  have:i=a.length:=by omega
  subst this
  exact Tot.ret (by show _=_;rw [List.take_length];rfl)
theorem impl_next (s:TStructure) {a b:List Int} (hs:small s.nodes.length) (ha:small a.length) (hb:small b.length) (a0:a≠[]) (b0:b≠[]):impl_joinNext s a b=some (nextG s a b):=by
 unfold small at ha hb
 unfold impl_joinNext
 rw [at_first a0 0,at_first b0 0]
 simp only [Option.bind_some,impl_nextOf s _ _ hs]
 refine Tot.eq (Tot.bind (P:=(· = nextG s a b)) (Tot.loop (fun i q=>q=((a.take i).foldl (fun acc i=>rowG s i b acc) (nextV s (a.getD 0 0) (b.getD 0 0)),(i:Int))) a.length rfl fun i q hI hi=>?_) fun r hr=>by subst hr;exact Tot.ret rfl)
 subst hI
 by_cases hlt:i < a.length
 ·simp only [ltI,zah,at_nat,List.getElem?_eq_getElem hlt,Option.bind_some]
  rw [if_pos (by omega)]
  generalize hq:(a.take i).foldl (fun acc i=>rowG s i b acc) (nextV s (a.getD 0 0) (b.getD 0 0))=acc
  refine Tot.bind (P:=(· = rowG s a[i] b acc)) (Tot.loop (fun j q=>q=(rowG s a[i] (b.take j) acc,(j:Int))) b.length rfl fun j q hJ hj=>?_) fun r hr=>?_
  ·subst hJ
   by_cases hjl:j < b.length
   ·simp only [at_nat,List.getElem?_eq_getElem hjl,Option.bind_some,impl_join]
    rw [if_pos (by omega),addI_eq (by omega) (by omega)]
    exact Tot.ret ⟨hjl,by rw [take_snoc1 hjl];unfold rowG;rw [List.foldl_append];rfl⟩
   ·simp only
    rw [if_neg (by omega)]
    have:j=b.length:=by omega
    subst this
    exact Tot.ret (by show _=_;rw [List.take_length])
  ·subst hr
   rw [addI_eq (by omega) (by omega)]
   exact Tot.ret ⟨hlt,by rw [take_snoc1 hlt,List.foldl_append,hq];rfl⟩
 ·simp only [ltI,zah]
  rw [if_neg (by omega)]
  have:i=a.length:=by omega
  subst this
  exact Tot.ret (by show _=_;rw [List.take_length];rfl)

def manyG (s:TStructure) (g:List Int):Int:=if 1 < g.length then 1 else if (s.nodes.getD (g.getD 0 0).toNat zN).many≠0 then 1 else (s.nodes.getD (g.getD 0 0).toNat zN).many
def nodeG (s:TStructure) (g:List Int):TNode:={ s.nodes.getD (g.getD 0 0).toNat zN with many:=manyG s g }
def inG (s:TStructure) (g:List Int):Prop:=∀ z∈g,0≤z∧z < (s.nodes.length:Int)
theorem getD_mem {α:Type} {xs:List α} {i:Nat} (h:i < xs.length) (d:α):xs.getD i d∈xs:=by simp [List.getD,h]
theorem spec_node {s:TStructure} (hs:shortS s) {g:List Int} (hg:small g.length) (g0:g≠[]) (hin:inG s g):spec_l17Node s g=some (nodeG s g):=by
 unfold small at hg
 have hp:=List.length_pos_iff.2 g0
 have h0:=hin _ (getD_mem hp 0)
 unfold spec_l17Node
 rw [at_first g0 0,Option.bind_some,at_in' h0 zN,Option.bind_some,copyNode _ (hs.e _ (node_mem h0)),Option.bind_some]
 refine Tot.eq (Tot.bind (P:=(· = manyG s g)) (Tot.loop (fun i q=>q=((i:Int),if i=0 then (s.nodes.getD (g.getD 0 0).toNat zN).many else manyG s g)) g.length rfl fun i q hI hi=>?_) fun r hr=>by subst hr;exact Tot.ret rfl)
 subst hI
 by_cases hlt:i < g.length
 ·have hz:=hin _ (getD_mem hlt 0)
  simp only [ltI,zah,getD_at hlt 0,Option.bind_some,at_in' hz zN,neI,cond_ndec]
  rw [if_pos (by omega),addI_eq (by omega) (by omega)]
  by_cases h1:1 < g.length
  ·rw [if_pos (by omega)]
   exact Tot.ret ⟨hlt,by rw [if_neg (by omega)];unfold manyG;rw [if_pos h1];rfl⟩
  ·rw [if_neg (by omega)]
   have:i=0:=by omega
   subst this
   by_cases h2:(s.nodes.getD (g.getD 0 0).toNat zN).many=0
   ·rw [if_pos h2]
    exact Tot.ret ⟨hlt,by rw [if_pos rfl,if_neg (by omega)];unfold manyG;rw [if_neg h1,if_neg (fun h=>h h2)];rfl⟩
   ·rw [if_neg h2]
    exact Tot.ret ⟨hlt,by rw [if_neg (by omega)];unfold manyG;rw [if_neg h1,if_pos h2];rfl⟩
 ·simp only [ltI,zah]
  rw [if_neg (by omega)]
  exact Tot.ret (by show _=_;rw [if_neg (by omega)])
theorem impl_many {s:TStructure} {g:List Int} (hg:small g.length) (g0:g≠[]) (hin:inG s g):Tot (iter (ρ:=Int) (fun s_42:Int × Int =>
                 cond (ltI s_42.1 (g.length:Int))
                  ((at? g s_42.1).bind fun e_50 =>
                   cond (ltI 0 s_42.1)
                    (some (.inl (addI s_42.1 1,1)))
                    ((at? s.nodes e_50).bind fun e_56 =>
                     cond (neI e_56.many 0)
                      (some (.inl (addI s_42.1 1,1)))
                      (some (.inl (addI s_42.1 1,s_42.2)))))
                  (some (.inr s_42.2))) (0,(s.nodes.getD (g.getD 0 0).toNat zN).many)) (· = manyG s g):=by
 unfold small at hg
 have hp:=List.length_pos_iff.2 g0
 refine Tot.loop (fun i q=>q=((i:Int),if i=0 then (s.nodes.getD (g.getD 0 0).toNat zN).many else if i=1 then (if (s.nodes.getD (g.getD 0 0).toNat zN).many≠0 then 1 else (s.nodes.getD (g.getD 0 0).toNat zN).many) else 1)) g.length rfl fun i q hI hi=>?_
 subst hI
 by_cases hlt:i < g.length
 ·have hz:=hin _ (getD_mem hlt 0)
  simp only [ltI,zah,getD_at hlt 0,Option.bind_some,at_in' hz zN,neI,cond_ndec]
  rw [if_pos (by omega),addI_eq (by omega) (by omega)]
  by_cases h1:0 < i
  ·rw [if_pos (by omega)]
   exact Tot.ret ⟨hlt,by rw [if_neg (by omega),if_neg (by omega)];rfl⟩
  ·rw [if_neg (by omega)]
   have:i=0:=by omega
   subst this
   by_cases h2:(s.nodes.getD (g.getD 0 0).toNat zN).many=0
   ·rw [if_pos h2]
    exact Tot.ret ⟨hlt,by rw [if_pos rfl,if_neg (by omega),if_pos rfl,if_neg (fun h=>h h2)];rfl⟩
   ·rw [if_neg h2]
    exact Tot.ret ⟨hlt,by rw [if_neg (by omega),if_pos rfl,if_pos h2];rfl⟩
 ·simp only [ltI,zah]
  rw [if_neg (by omega)]
  have:i=g.length:=by omega
  subst this
  refine Tot.ret ?_
  unfold manyG
  by_cases h1:1 < g.length
  ·show _=_
   rw [if_neg (by omega),if_neg (by omega),if_pos h1]
  ·show _=_
   rw [if_neg (by omega),if_pos (by omega),if_neg h1]
end Go.Ev


namespace Go.Ev
open Wf (wf)
open Sm (sm lg)

def gsF (s:TStructure):List (List Int):=grpO (namesL s s.nodes.length)
def blurG (s:TStructure) (gs:List (List Int)):TStructure:=⟨gs.map (nodeG s),gs.flatMap fun a=>gs.map (nextG s a)⟩
def blurF (s:TStructure):TStructure:=if s.nodes.length=0 then ⟨[],[]⟩ else if isStrB (varsF s) s=true then blurG s (gsF s) else s
structure Grp (s:TStructure) (gs:List (List Int)):Prop where
 l:gs.length≤10
 e:∀ g∈gs,g≠[]∧g.length≤10∧inG s g
theorem namesL_len (s:TStructure) (k:Nat):(namesL s k).length=k:=by simp [namesL]
theorem grp_ok {s:TStructure} (h:okB s):Grp s (gsF s):=by
 have hn:=h.n
 have hl:=namesL_len s s.nodes.length
 refine ⟨?_,fun g hg=>?_⟩
 ·unfold gsF grpO
  rw [List.length_map,(sortN_perm _).length_eq]
  have:=dstN_length (namesL s s.nodes.length)
  omega
 ·unfold gsF grpO at hg
  obtain ⟨k,hk,rfl⟩:=List.mem_map.1 hg
  have hm:=(sortN_mem _ _).1 hk
  refine ⟨fun h0=>posN_nil.1 h0 hm,?_,fun z hz=>?_⟩
  ·have:=posN_length k (namesL s s.nodes.length) 0
   omega
  ·have:=posN_range hz
   omega
theorem spec_blurLoop {s:TStructure} (hs:shortS s) {gs:List (List Int)} (hG:Grp s gs):Tot ((iter (ρ:=(List TNode) × (List Int)) (fun s_12:Int × (List TNode) × (List Int) =>
        cond (ltI s_12.1 (gs.length:Int))
         ((at? gs s_12.1).bind fun e_20 =>
          (spec_l17Node s e_20).bind fun y_25 =>
           (room (s_12.2.1.length + [y_25].length) 64).bind fun _ =>
            (iter (ρ:=(List Int)) (fun s_30:Int × (List Int) =>
             cond (ltI s_30.1 (gs.length:Int))
              ((at? gs s_12.1).bind fun _ =>
               (at? gs s_30.1).bind fun e_43 =>
                (spec_l17Next s e_20 e_43).bind fun y_48 =>
                 (room (s_30.2.length + [y_48].length) 8).bind fun _ =>
                  some (.inl (addI s_30.1 1,s_30.2 ++ [y_48])))
              (some (.inr s_30.2))) (0,s_12.2.2)).bind fun r_53 =>
             some (.inl (addI s_12.1 1,s_12.2.1 ++ [y_25],r_53)))
         (some (.inr (s_12.2.1,s_12.2.2)))) (0,[],[])).bind fun r_58 =>
       some (⟨r_58.1,r_58.2⟩:TStructure)) (· = blurG s gs):=by
 have hl:=hG.l
 have hrow:∀ m,((gs.take m).flatMap fun a=>gs.map (nextG s a)).length=(gs.take m).length * gs.length:=fun m=>flatMap_len _ _ _ (fun x _=>by simp)
 refine Tot.bind (P:=(· = (gs.map (nodeG s),gs.flatMap fun a=>gs.map (nextG s a)))) (Tot.loop (fun i q=>q=((i:Int),(gs.take i).map (nodeG s),(gs.take i).flatMap fun a=>gs.map (nextG s a))) gs.length rfl fun i q hI hi=>?_) fun r hr=>by subst hr;exact Tot.ret rfl
 subst hI
 by_cases hlt:i < gs.length
 ·obtain ⟨g0,g1,g2⟩:=hG.e _ (List.getElem_mem hlt)
  have hi10:i * gs.length≤10 * 10:=Nat.mul_le_mul (by omega) (by omega)
  have hrl:((gs.take i).flatMap fun a=>gs.map (nextG s a)).length=i * gs.length:=by rw [hrow,List.length_take,Nat.min_eq_left (by omega)]
  simp only [ltI,zah,at_nat,List.getElem?_eq_getElem hlt,Option.bind_some,spec_node hs (show small gs[i].length by unfold small;omega) g0 g2,List.length_map,List.length_take,List.length_singleton]
  rw [if_pos (by omega),room_small (by omega) (by omega),Option.bind_some]
  refine Tot.bind (P:=(· = (gs.take (i+1)).flatMap fun a=>gs.map (nextG s a))) (Tot.loop (fun j q=>q=((j:Int),((gs.take i).flatMap fun a=>gs.map (nextG s a)) ++ (gs.take j).map (nextG s gs[i]))) gs.length (by simp) fun j q hJ hj=>?_) fun r hr=>?_
  ·subst hJ
   by_cases hjl:j < gs.length
   ·obtain ⟨b0,b1,b2⟩:=hG.e _ (List.getElem_mem hjl)
    simp only [at_nat,List.getElem?_eq_getElem hjl,Option.bind_some,spec_next s hs.n (show small gs[i].length by unfold small;omega) (show small gs[j].length by unfold small;omega) g0 b0,List.length_append,hrl,List.length_map,List.length_take,List.length_singleton]
    rw [if_pos (by omega),room_small (by omega) (by omega),Option.bind_some,addI_eq (by omega) (by omega)]
    exact Tot.ret ⟨hjl,by rw [take_snoc1 hjl,List.map_append,List.append_assoc];rfl⟩
   ·simp only
    rw [if_neg (by omega)]
    have:j=gs.length:=by omega
    subst this
    exact Tot.ret (by show _=_;rw [List.take_length,take_snoc1 hlt,List.flatMap_append];simp)
  ·subst hr
   rw [addI_eq (by omega) (by omega)]
   exact Tot.ret ⟨hlt,by rw [take_snoc1 hlt,List.map_append];rfl⟩
 ·simp only [ltI,zah]
  rw [if_neg (by omega)]
  have:i=gs.length:=by omega
  subst this
  exact Tot.ret (by show _=_;rw [List.take_length])
theorem spec_blur {s:TStructure} (hs:shortS s):spec_Blur s=some (blurF s):=by
 have hn:=hs.n
 unfold small at hn
 unfold spec_Blur blurF
 simp only [eqI,zah,vars_eq,Option.bind_some,spec_isStructure _ s hs]
 by_cases h0:s.nodes.length=0
 ·rw [if_pos (by omega),if_pos h0]
 ·rw [if_neg (by omega),if_neg h0]
  cases hc:isStrB (varsF s) s with
  | false =>
   rw [cond_false,spec_copy s hs,if_neg (by simp)]
   rfl
  | true =>
   have hb:=okB_of hs hc h0
   have hg:spec_l17Groups s=some (gsF s):=by
    unfold spec_l17Groups groupsT
    rw [namesT_L (fun i hi=>spec_name hb (by omega)) _ (Nat.le_refl _),Option.bind_some,if_pos (names_few hb)]
    rfl
   rw [cond_true,if_pos rfl,hg,Option.bind_some]
   exact (spec_blurLoop hs (grp_ok hb)).eq
theorem impl_blurLoop {s:TStructure} (hs:shortS s) {ls:List ByteArray} {es:List (ByteArray × List Int)} {F:ByteArray→List Int} (hE:∀ k∈ls,lookT k es=some (F k)) (hG:Grp s (ls.map F)):Tot ((iter (ρ:=(List TNode) × (List Int)) (fun s_11:Int × (List TNode) × (List Int) =>
        cond (ltI s_11.1 (ls.length:Int))
         ((at? ls s_11.1).bind fun e_19 =>
          (lookT e_19 es).bind fun y_24 =>
           (at? y_24 0).bind fun e_27 =>
            (at? s.nodes e_27).bind fun e_32 =>
             (impl_Node_own e_32).bind fun y_37 =>
              (lookT e_19 es).bind fun _ =>
               (iter (ρ:=Int) (fun s_42:Int × Int =>
                cond (ltI s_42.1 (y_24.length:Int))
                 ((at? y_24 s_42.1).bind fun e_50 =>
                  cond (ltI 0 s_42.1)
                   (some (.inl (addI s_42.1 1,1)))
                   ((at? s.nodes e_50).bind fun e_56 =>
                    cond (neI e_56.many 0)
                     (some (.inl (addI s_42.1 1,1)))
                     (some (.inl (addI s_42.1 1,s_42.2)))))
                 (some (.inr s_42.2))) (0,y_37.many)).bind fun r_62 =>
                (room (s_11.2.1.length + [(⟨y_37.vars,y_37.reach,y_37.shared,r_62⟩:TNode)].length) 64).bind fun _ =>
                 (iter (ρ:=(List Int)) (fun s_69:Int × (List Int) =>
                  cond (ltI s_69.1 (ls.length:Int))
                   ((at? ls s_69.1).bind fun e_77 =>
                    (lookT e_19 es).bind fun _ =>
                     (lookT e_77 es).bind fun y_83 =>
                      (impl_joinNext s y_24 y_83).bind fun y_86 =>
                       (room (s_69.2.length + [y_86].length) 8).bind fun _ =>
                        some (.inl (addI s_69.1 1,s_69.2 ++ [y_86])))
                   (some (.inr s_69.2))) (0,s_11.2.2)).bind fun r_91 =>
                  some (.inl (addI s_11.1 1,s_11.2.1 ++ [(⟨y_37.vars,y_37.reach,y_37.shared,r_62⟩:TNode)],r_91)))
         (some (.inr (s_11.2.1,s_11.2.2)))) (0,[],[])).bind fun r_96 =>
       some (⟨r_96.1,r_96.2⟩:TStructure)) (· = blurG s (ls.map F)):=by
 have hl:=hG.l
 rw [List.length_map] at hl
 have hgs:∀ {i:Nat} (h:i < ls.length),F ls[i]≠[]∧(F ls[i]).length≤10∧inG s (F ls[i]):=fun h=>hG.e _ (List.mem_map.2 ⟨_,List.getElem_mem h,rfl⟩)
 have hrow:∀ m,((ls.take m).flatMap fun a=>ls.map fun b=>nextG s (F a) (F b)).length=(ls.take m).length * ls.length:=fun m=>flatMap_len _ _ _ (fun x _=>by simp)
 have hres:blurG s (ls.map F)=⟨ls.map fun a=>nodeG s (F a),ls.flatMap fun a=>ls.map fun b=>nextG s (F a) (F b)⟩:=by
  unfold blurG
  rw [List.map_map,List.flatMap_map]
  simp only [List.map_map]
  rfl
 rw [hres]
 refine Tot.bind (P:=(· = (ls.map (fun a=>nodeG s (F a)),ls.flatMap fun a=>ls.map fun b=>nextG s (F a) (F b)))) (Tot.loop (fun i q=>q=((i:Int),(ls.take i).map (fun a=>nodeG s (F a)),(ls.take i).flatMap fun a=>ls.map fun b=>nextG s (F a) (F b))) ls.length rfl fun i q hI hi=>?_) fun r hr=>by subst hr;exact Tot.ret rfl
 subst hI
 by_cases hlt:i < ls.length
 ·obtain ⟨g0,g1,g2⟩:=hgs hlt
  have hp:=List.length_pos_iff.2 g0
  have h0:=g2 _ (getD_mem hp 0)
  have hi10:i * ls.length≤10 * 10:=Nat.mul_le_mul (by omega) (by omega)
  have hrl:((ls.take i).flatMap fun a=>ls.map fun b=>nextG s (F a) (F b)).length=i * ls.length:=by rw [hrow,List.length_take,Nat.min_eq_left (by omega)]
  simp only [ltI,zah,at_nat,List.getElem?_eq_getElem hlt,Option.bind_some,hE _ (List.getElem_mem hlt)]
  rw [if_pos (by omega),at_first g0 0,Option.bind_some,at_in' h0 zN,Option.bind_some,ownNode _ (hs.e _ (node_mem h0)),Option.bind_some]
  have hm:=impl_many (s:=s) (show small (F ls[i]).length by unfold small;omega) g0 g2
  simp only [ltI,zah] at hm
  refine Tot.bind hm fun r hr=>?_
  subst hr
  simp only [List.length_map,List.length_take,List.length_singleton]
  rw [room_small (by omega) (by omega),Option.bind_some]
  refine Tot.bind (P:=(· = (ls.take (i+1)).flatMap fun a=>ls.map fun b=>nextG s (F a) (F b))) (Tot.loop (fun j q=>q=((j:Int),((ls.take i).flatMap fun a=>ls.map fun b=>nextG s (F a) (F b)) ++ (ls.take j).map fun b=>nextG s (F ls[i]) (F b))) ls.length (by simp) fun j q hJ hj=>?_) fun r hr=>?_
  ·subst hJ
   by_cases hjl:j < ls.length
   ·obtain ⟨b0,b1,b2⟩:=hgs hjl
    simp only [at_nat,List.getElem?_eq_getElem hjl,Option.bind_some,hE _ (List.getElem_mem hjl),impl_next s hs.n (show small (F ls[i]).length by unfold small;omega) (show small (F ls[j]).length by unfold small;omega) g0 b0,List.length_append,hrl,List.length_map,List.length_take,List.length_singleton]
    rw [if_pos (by omega),room_small (by omega) (by omega),Option.bind_some,addI_eq (by omega) (by omega)]
    exact Tot.ret ⟨hjl,by rw [take_snoc1 hjl,List.map_append,List.append_assoc];rfl⟩
   ·simp only
    rw [if_neg (by omega)]
    have:j=ls.length:=by omega
    subst this
    exact Tot.ret (by show _=_;rw [List.take_length,take_snoc1 hlt,List.flatMap_append];simp)
  ·subst hr
   rw [addI_eq (by omega) (by omega)]
   exact Tot.ret ⟨hlt,by rw [take_snoc1 hlt,List.map_append];rfl⟩
 ·simp only [ltI,zah]
  rw [if_neg (by omega)]
  have:i=ls.length:=by omega
  subst this
  exact Tot.ret (by show _=_;rw [List.take_length])
theorem impl_blur {s:TStructure} (hs:shortS s):impl_Blur s=some (blurF s):=by
 have hn:=hs.n
 unfold small at hn
 unfold impl_Blur blurF
 simp only [eqI,zah,variables_eq,vars_eq,Option.bind_some,impl_isStructure _ s hs]
 by_cases h0:s.nodes.length=0
 ·rw [if_pos (by omega),if_pos h0]
 ·rw [if_neg (by omega),if_neg h0]
  cases hc:isStrB (varsF s) s with
  | false =>
   rw [cond_false,impl_owns s hs,if_neg (by simp)]
   rfl
  | true =>
   have hb:=okB_of hs hc h0
   have hg:preT impl_NodeName s=some (grpN (namesL s s.nodes.length),sortN (dstN (namesL s s.nodes.length))):=by
    unfold preT
    rw [namesT_L (fun i hi=>impl_name hb (by omega)) _ (Nat.le_refl _),Option.bind_some,if_pos]
    rw [Bool.and_eq_true]
    exact ⟨names_few hb,by rw [namesL_len];simpa using hb.z⟩
   rw [cond_true,if_pos rfl,hg,Option.bind_some]
   refine (impl_blurLoop hs (F:=fun k=>posN k (namesL s s.nodes.length) 0) (fun k hk=>?_) (grp_ok hb)).eq
   show lookT k (grpN _)=_
   unfold grpN
   rw [lookT_map,if_pos ((sortN_perm _).mem_iff.1 hk)]
end Go.Ev


namespace Go.Ev
open Wf (wf)
open Sm (sm lg)

theorem sm_blur {s:TStructure} (h:sm s):sm (blurF s):=by
 unfold blurF
 split
 ·exact ⟨⟨by simp,by simp⟩,⟨by simp,by simp⟩⟩
 ·rename_i h0
  split
  ·rename_i hc
   have hG:=grp_ok (okB_of (short_sm h) hc h0)
   have hl:=hG.l
   unfold blurG
   refine ⟨⟨by simp only [List.length_map];omega,fun y hy=>?_⟩,⟨?_,fun _ _=>trivial⟩⟩
   ·obtain ⟨g,hg,rfl⟩:=List.mem_map.1 hy
    obtain ⟨g0,_,g2⟩:=hG.e g hg
    have hz:=g2 _ (getD_mem (List.length_pos_iff.2 g0) 0)
    have:=h.1.2 _ (node_mem hz)
    exact ⟨this.1,this.2⟩
   ·simp only
    rw [flatMap_len _ _ (gsF s).length (fun x _=>by simp)]
    have:(gsF s).length * (gsF s).length≤10 * 10:=Nat.mul_le_mul (by omega) (by omega)
    omega
  ·exact h
theorem sm_strOf (h:THeap):sm (strOf h):=by
 unfold strOf
 split
 ·split
  ·split
   ·rename_i h10 h4
    refine ⟨⟨by simp;omega,fun y hy=>?_⟩,⟨?_,fun _ _=>trivial⟩⟩
    ·simp only [List.mem_map,List.mem_range] at hy
     obtain ⟨i,hi,rfl⟩:=hy
     exact ⟨⟨by simp [nodeOf];omega,fun _ _=>trivial⟩,⟨by simp [nodeOf];omega,fun _ _=>trivial⟩⟩
    ·simp only
     rw [arrows_len]
     have:h.next.length * h.next.length≤10 * 10:=Nat.mul_le_mul h10 h10
     omega
   ·exact ⟨⟨by simp,by simp⟩,⟨by simp,by simp⟩⟩
  ·exact ⟨⟨by simp,by simp⟩,⟨by simp,by simp⟩⟩
 ·exact ⟨⟨by simp,by simp⟩,⟨by simp,by simp⟩⟩
theorem law_AbstractionOf {h:THeap} (hw:wf h):laws_FnExactAbstractionOf h=some true:=by
 unfold laws_FnExactAbstractionOf
 obtain ⟨n,h1,h2,h3,h4⟩:=szHeap_ok hw (left:=1048576) (by omega)
 rw [h1,Option.bind_some,cond_lt]
 by_cases hn:n < 0
 ·rw [if_pos hn]
 ·rw [if_neg hn]
  have s1:=h3 (by omega)
  have l1:=s1.1.1
  have l2:=s1.2.1
  have st:=sm_strOf h
  have s2:=sm_blur st
  have e1:spec_AbstractionOf h=some (blurF (strOf h)):=by
   unfold spec_AbstractionOf
   rw [spec_structureOf h (by unfold small;omega) (by unfold small;omega),Option.bind_some,spec_blur (short_sm st)]
   rfl
  have e2:impl_AbstractionOf h=some (blurF (strOf h)):=by
   unfold impl_AbstractionOf
   rw [impl_structureOf h (by unfold small;omega) (by unfold small;omega) (by unfold small;simp only [List.length_append];omega),Option.bind_some,impl_blur (short_sm st)]
   rfl
  generalize blurF (strOf h)=t at *
  have hc2:=cnt_str s2
  have hb1:(1:Int)+cntF_markHeap h≤maxMark:=by
   unfold maxMark cntF_markHeap
   rw [cntI_len,cntI_len]
   omega
  have hb2:(1:Int)+cntF_markStructure t≤maxMark:=by unfold maxMark cntF_markStructure;omega
  have m1:=markHeap_snd h 1 (by omega) hb1
  have m2:=markStructure_snd t 1 (by omega) hb2
  have n1:ltI (mkF_markHeap h 1).2 0=false:=by simp only [ltI,decide_eq_false_iff_not];omega
  have n2:ltI (mkF_markStructure t 1).2 0=false:=by simp only [ltI,decide_eq_false_iff_not];omega
  simp [toHeap_ok s1,e1,e2,eqHeap_ok (sm_lg s1),eqStructure_ok (sm_lg s2),markO_some (sm_lg s1),markO_some (sm_lg s2),n1,n2,heldStructure_ok (sm_lg s2) (by omega) hb2,neI]
end Go.Ev


namespace Go.Proofs
open Go.Ev
theorem st0 {g:Cfg} {f:Nat} {args:List AV} {fn:Go.Func} {r:AV} (l:List Go.ResultVar) (h1:Try.prog.funcs[f]?=some fn) (h:Goal (FnEnd Try.prog 0 l ((lookK (f,atEnd) g.gho).getD []) r) (evk g (0+1) f (fn.body.getD .skip) [] { env:=fun t=>(args[t]?).getD .dead,mem:=mem0 }))
 (h0:lookN f g.ctx=none:=by rfl) (hP:g.P=Try.prog:=by rfl) (h2:fn.body=some (fn.body.getD .skip):=by kernel_rfl) (h3:fnOK g f fn=true:=by kernel_rfl) (h4:Nat.ble args.length fn.ntmps=true:=by kernel_rfl) (h5:fn.results.toList=l:=by rfl):∃ m,callo g 0 f args mem0=some (r,m) :=
 start_fn _ l h0 hP h1 h2 h3 (Nat.le_of_ble_eq_true h4) h5 h
theorem ent {f : Nat} {fn : Go.Func} (h : Try.prog.funcs[f]? = some fn) (h1 : fn.body.isSome = true := by kernel_rfl) (h2 : (fn.name == "runtime.NumGoroutine") = false := by kernel_rfl) : Go.Ev.Enters Try.prog f := ⟨fn, h, h1, h2⟩
@[simp] theorem ti_3:ti Try.prog 3=some { size:=1,bytes:=8,agg:=false,elem:=none,flds:=[],zero:=[.int .i64 0] }:=by kernel_rfl
@[simp] theorem ti_4:ti Try.prog 4=some { size:=1,bytes:=1,agg:=false,elem:=none,flds:=[],zero:=[.bool false] }:=by kernel_rfl
attribute [simp] Try.underlying4
@[simp] theorem ti_9:ti Try.prog 9=some { size:=1,bytes:=16,agg:=false,elem:=none,flds:=[],zero:=[.string ByteArray.empty] }:=by kernel_rfl
attribute [simp] Try.underlying9
@[simp] theorem ti_22:ti Try.prog 22=some { size:=1,bytes:=24,agg:=false,elem:=some 68,flds:=[],zero:=[.slice none 0 0] }:=by kernel_rfl
@[simp] theorem ti_23:ti Try.prog 23=some { size:=1,bytes:=24,agg:=false,elem:=some 3,flds:=[],zero:=[.slice none 0 0] }:=by kernel_rfl
@[simp] theorem ti_25:ti Try.prog 25=some { size:=2,bytes:=48,agg:=true,elem:=none,flds:=[(0,22),(1,23)],zero:=[.slice none 0 0,.slice none 0 0] }:=by kernel_rfl
@[simp] theorem ti_28:ti Try.prog 28=some { size:=1,bytes:=24,agg:=false,elem:=some 56,flds:=[],zero:=[.slice none 0 0] }:=by kernel_rfl
@[simp] theorem ti_30:ti Try.prog 30=some { size:=2,bytes:=48,agg:=true,elem:=none,flds:=[(0,28),(1,23)],zero:=[.slice none 0 0,.slice none 0 0] }:=by kernel_rfl
@[simp] theorem ti_37:ti Try.prog 37=some { size:=2,bytes:=48,agg:=true,elem:=none,flds:=[(0,23),(1,23)],zero:=[.slice none 0 0,.slice none 0 0] }:=by kernel_rfl
@[simp] theorem ti_40:ti Try.prog 40=some { size:=2,bytes:=48,agg:=true,elem:=none,flds:=[(0,23),(1,23)],zero:=[.slice none 0 0,.slice none 0 0] }:=by kernel_rfl
@[simp] theorem ti_53:ti Try.prog 53=some { size:=1,bytes:=24,agg:=false,elem:=some 23,flds:=[],zero:=[.slice none 0 0] }:=by kernel_rfl
@[simp] theorem ti_56:ti Try.prog 56=some { size:=4,bytes:=64,agg:=true,elem:=none,flds:=[(0,23),(1,23),(2,3),(3,3)],zero:=[.slice none 0 0,.slice none 0 0,.int .i64 0,.int .i64 0] }:=by kernel_rfl
@[simp] theorem ti_61:ti Try.prog 61=some { size:=1,bytes:=24,agg:=false,elem:=some 9,flds:=[],zero:=[.slice none 0 0] }:=by kernel_rfl
@[simp] theorem ti_68:ti Try.prog 68=some { size:=4,bytes:=64,agg:=true,elem:=none,flds:=[(0,23),(1,23),(2,3),(3,3)],zero:=[.slice none 0 0,.slice none 0 0,.int .i64 0,.int .i64 0] }:=by kernel_rfl
end Go.Proofs


namespace Go.Proofs
open Go.Ev Go.RowKit Go.Lib Go.Sort
theorem INFO3:(Try.prog.info? 3).map (fun i=>(i.zero,i.size,i.bytes))=some (some (.int .i64 0),1,8):=by kernel_rfl
set_option maxHeartbeats 2000000 in
set_option maxRecDepth 100000 in
theorem clone69_nil (n c:Nat) (w:World):Calls Try.prog 69 #[.slice none n c] w fun e w'=>e=.returned (.slice none 0 0)∧w'=w:=by
 have q23:∀ (w:World) (a:Option Addr) (n c n' c':Nat),(binOp .eql 23 (.slice a n c) (.slice none n' c')).run Try.prog w=.ok (.bool a.isNone) w:=fun w a n c n' c'=>Lib.run_eql_slice_nil w _ _ a n c n' c' Try.underlying23
 go_enter Try.func69,Try.ntmps69
 go_wp2
 go_ret
 exact ⟨rfl,rfl⟩

set_option maxHeartbeats 2000000 in
set_option maxRecDepth 100000 in
theorem clone69_zero (a:Addr) (c:Nat) (w:World) :
 Calls Try.prog 69 #[.slice (some a) 0 c] w fun e w'=>∃ b,e=.returned (.slice b 0 0)∧w'=w.alloc (.cells #[] 3):=by
 have q23:∀ (w:World) (a:Option Addr) (n c n' c':Nat),(binOp .eql 23 (.slice a n c) (.slice none n' c')).run Try.prog w=.ok (.bool a.isNone) w:=fun w a n c n' c'=>Lib.run_eql_slice_nil w _ _ a n c n' c' Try.underlying23
 go_enter Try.func69,Try.ntmps69
 go_wp2
 go_ret
 exact ⟨_,rfl,rfl⟩

set_option maxHeartbeats 2000000 in
set_option maxRecDepth 100000 in
theorem clone69_row (b off n c:Nat) (vs:List Value) (w:World) (hlen:vs.length=n * 1) (hbig:n * 8≤140737488355328) (hsc:∀ u∈vs,scal u=true) (hc:∀ j u,vs[j]?=some u→w.cell? ⟨b,off+j,none⟩=some u) :
 Calls Try.prog 69 #[.slice (some ⟨b,off,none⟩) n c] w fun e w'=>∃ v',e=.returned v'∧w'.ownsRow w.heap.size 3 1 v' n vs∧Below w.heap.size w w':=by
 obtain ⟨i0,hi,hz0,hz1,hz2⟩:=info_parts INFO3
 have q23:∀ (w:World) (a:Option Addr) (n c n' c':Nat),(binOp .eql 23 (.slice a n c) (.slice none n' c')).run Try.prog w=.ok (.bool a.isNone) w:=fun w a n c n' c'=>Lib.run_eql_slice_nil w _ _ a n c n' c' Try.underlying23
 have u23:∀ w,Sem.run Try.prog (underlying 23) w=.ok (TypeDesc.slice 3) w:=run_underlying Try.underlying23
 have A:Aside (∀ j u,vs[j]?=some u→w.cell? ⟨b,off+j,none⟩=some u):=hc
 clear hc
 go_enter Try.func69,Try.ntmps69
 go_wp2_with (at_builtin;refine wpList_append_own _ rfl _ _ 23 rfl w.heap.size 3 i0 (.int .i64 0) 1 8 Try.underlying23 hi hz0 hz1 hz2 rfl (by decide) _ _ _ rfl (World.ownsRow_made w #[] 0 (Nat.le_refl _) (Nat.zero_le _) rfl) ⟨b,off,none⟩ n c vs rfl ?qc1 ?qc2 ?qc3 ?qc4 ?qc5 ?qc6 ?_)
 case qc1=>exact hlen
 case qc2 =>
  intro j u hj
  rw [Addr.add_lit]
  exact Lib.cell?_alloc_some _ (A.out j u hj)
 case qc3 =>
  intro u hu
  have:=hsc u hu
  cases u <;> first | rfl | cases this
 case qc4=>unfold maxLen;omega
 case qc5=>omega
 case qc6=>simp
 intro v' w1 hown hgrow hnil
 go_wp2
 go_ret
 refine ⟨_,rfl,by simpa using hown,?_⟩
 refine ⟨hgrow.os,hgrow.tape,hgrow.output,?_,fun k hk=>?_⟩
 ·have:=hgrow.size;rw [World.size_alloc] at this;omega
 ·rw [hgrow.block k (by rw [World.size_alloc];omega) (by simp [Value.ownBlock];omega),heap_old w _ hk]

def C69:List AV→Option AV:=specP (X:=List Int × Unit) fun x=>slices_Clone_int x.1
theorem C69_eq {s:List Int} {y} (h:slices_Clone_int s=some y):C69 [av .shr s]=some (Res.res y):=zaf (X:=List Int × Unit) (F:=fun x=>slices_Clone_int x.1) (x:=(s,())) h
theorem pc69:PC Try.prog 69 C69 :=
 pc_clone (α:=Int) (e:=3) (bytes:=8) ⟨Try.f69,Try.func69,by kernel_rfl,by kernel_rfl⟩ clone69_nil
  (fun a c w=>(clone69_zero a c w).mono fun e w' h=>by
   obtain ⟨b,rfl,rfl⟩:=h
   exact ⟨b,rfl,rfl,rfl,rfl,by rw [World.size_alloc];omega,fun k hk=>heap_old w _ hk⟩)
  clone69_row

set_option maxHeartbeats 4000000 in
set_option maxRecDepth 100000 in
theorem grow117_zero (w:World):Calls Try.prog 117 #[.slice none 0 0,.int .i64 0] w fun e w'=>e=.returned (.slice none 0 0)∧w'=w:=by
 have u23:∀ w,Sem.run Try.prog (underlying 23) w=.ok (TypeDesc.slice 3) w:=run_underlying Try.underlying23
 go_enter Try.func117,Try.ntmps117
 go_wp2
 go_ret
 exact ⟨rfl,rfl⟩

set_option maxHeartbeats 4000000 in
set_option maxRecDepth 100000 in
theorem grow117_pos (n:Nat) (w:World) (h0:0 < n) (hbig:n * 8≤140737488355328) :
 Calls Try.prog 117 #[.slice none 0 0,.int .i64 n] w fun e w'=>∃ v,e=.returned v∧w'.ownsRow w.heap.size 3 1 v 0 []∧Below w.heap.size w w':=by
 obtain ⟨i0,hi,hz0,hz1,hz2⟩:=info_parts INFO3
 have u23:∀ w,Sem.run Try.prog (underlying 23) w=.ok (TypeDesc.slice 3) w:=run_underlying Try.underlying23
 have hrz:=fun ty=>run_append_grow_zeros (P:=Try.prog) w 23 3 ty 3 i0 (.int .i64 0) .i64 .i64 Try.underlying23 Try.underlying3 hi hz0 none 0 0 [] (run_firstCells_none w.drew i0.size 0 0 0) n h0 (by omega) (by omega) (by omega) (by rw [hz2];omega)
  (by rw [hz2];exact growslice_fits (by omega) (by omega))
 have hGn:0+n≤grownCap w (0+n) 0 3:=grownCap_ge w _ _ _
 have hGm:=grownCap_le_maxLen w (0+n) 0 3 (by unfold maxLen;omega)
 obtain ⟨G,hG⟩:∃ G,G=grownCap w (0+n) 0 3:=⟨_,rfl⟩
 rw [← hG] at hrz hGn hGm
 have A:Aside (G≤maxLen):=hGm
 clear hG hGm
 simp only [Nat.zero_add] at hrz hGn
 have h1:¬ ((n:Int) < 0):=by omega
 have h2:((n:Int) > 0):=by omega
 have h3:wrap64 (n:Int)=n:=by unfold wrap64;omega
 have h4:G≤9223372036854775807:=by have:=A.out;unfold maxLen at this;omega
 have B:Aside (i0.size=1):=hz1
 clear hz1 hz2
 go_enter Try.func117,Try.ntmps117
 go_wp2_with (at_builtin;refine Lib.wpList_append_run _ rfl _ _ _ _ rfl _ _ rfl rfl _ _ (hrz _) ?_)
 all_goals (go_ret;refine ⟨_,rfl,⟨rfl,.inr ⟨_,_,_,rfl,Nat.le_refl _,heap_new _ _,Nat.zero_le _,A.out,?_,by simp⟩⟩,rfl,rfl,rfl,by (show w.heap.size≤(w.heap.push _).size);rw [Array.size_push];omega,fun k hk=>heap_old _ _ hk⟩)
 all_goals (simp [Builtin.zeroCells];omega)

theorem grow117 (n:Nat) (w:World) (hbig:n * 8≤140737488355328) :
 Calls Try.prog 117 #[.slice none 0 0,.int .i64 n] w fun e w'=>∃ v,e=.returned v∧w'.ownsRow w.heap.size 3 1 v 0 []∧(n=0→v=.slice none 0 0)∧Below w.heap.size w w':=by
 rcases Nat.eq_zero_or_pos n with rfl | hn
 ·refine (grow117_zero w).mono fun e w' h=>?_
  obtain ⟨rfl,rfl⟩:=h
  exact ⟨_,rfl,⟨rfl,.inl ⟨rfl,rfl⟩⟩,fun _=>rfl,Below.refl _ _⟩
 ·refine (grow117_pos n w hn hbig).mono fun e w' h=>?_
  obtain ⟨v,rfl,h1,h2⟩:=h
  exact ⟨v,rfl,h1,fun h0=>by omega,h2⟩

set_option maxHeartbeats 8000000 in
set_option maxRecDepth 1000000 in
theorem concat106 (xa:Option Addr) (xb xo N xc:Nat) (ra:Nat→Option Addr) (nn rc:Nat→Nat) (ne:Nat→List Value) (w:World) (hxa:0 < N→xa=some ⟨xb,xo,none⟩) (hN:Hid (N≤maxLen))
 (hc:Aside (∀ j,j < N→w.cell? ⟨xb,xo+j,none⟩=some (.slice (ra j) (nn j) (rc j)))) (hr:Aside (∀ j,j < N→RowAt w 1 (ra j) (nn j) (ne j))) (hbig:Aside (tot nn N * 8≤140737488355328)) :
 Calls Try.prog 106 #[.slice xa N xc] w fun e w'=>∃ v,e=.returned v∧w'.ownsRow w.heap.size 3 1 v (tot nn N) (cat ne N)∧(tot nn N=0→v=.slice none 0 0)∧Below w.heap.size w w':=by
 obtain ⟨i0,hi,hz0,hz1,hz2⟩:=info_parts INFO3
 have B:Aside (i0.size=1∧i0.bytes=8):=⟨hz1,hz2⟩
 clear hz1 hz2
 go_enter Try.func106,Try.ntmps106
 go_wp2
 go_loopg [3,11] N (fun k s c wr=>∃ j,k=N - j∧j≤N∧s=.int .i64 (tot nn j:Nat)∧c=.int .i64 j∧w=wr)
 case atStart=>exact ⟨0,rfl,Nat.zero_le _,rfl,rfl,rfl⟩
 case round =>
  obtain ⟨j,hk,hj,rfl,rfl,rfl⟩:=hrel
  by_cases hlt:j < N
  ·obtain rfl:=hxa (by omega)
   have hx:=hc.out j hlt
   have hlt':(j:Int) < (N:Int):=by omega
   have hw:wrap64 ((tot nn j:Int)+(nn j:Int))=((tot nn (j+1):Nat):Int):=by
    have:=tot_mono nn (i:=j+1) (j:=N) (by omega)
    have:=hbig.out
    exact wrap_add (by simp only [tot] at *; unfold maxLen;omega)
   have hneg:¬ (((tot nn (j+1):Nat):Int) < 0):=by omega
   go_wp2
   go_roundg (N - (j+1))
   case measure=>omega
   case rel=>exact ⟨j+1,rfl,by omega,rfl,by simp;exact wrap_add (a:=j) (b:=1) (by have:=hN.out;omega),rfl⟩
  ·obtain rfl:j=N:=by omega
   have hg:=grow117 (tot nn j) w hbig.out
   go_wp2_with (go_at_call 117;refine hg.mono ?_;rintro e w' ⟨v,rfl,hown,hnil,hbel⟩)
   clear hg
   go_loopg [6,27] j (fun k d c wq=>∃ i,k=j - i∧i≤j∧c=.int .i64 i∧wq.ownsRow w.heap.size 3 1 d (tot nn i) (cat ne i)∧(tot nn j=0→d=.slice none 0 0)∧Below w.heap.size w wq)
   case atStart=>exact ⟨0,rfl,Nat.zero_le _,rfl,hown,hnil,hbel⟩
   case round =>
    obtain ⟨i,hk,hi2,rfl,hown2,hnil2,hbel2⟩:=hrel
    by_cases hlt2:i < j
    ·obtain rfl:=hxa (by omega)
     have hx:wr.cell? ⟨xb,xo+i,none⟩=some (.slice (ra i) (nn i) (rc i)):=by
      have:=hc.out i hlt2
      rw [← this]
      exact World.cell?_of_block (hbel2.block xb (World.block_lt_of_cell? _ _ this))
     obtain ⟨v2,w2,hrun,hown3,hgr,hnil3⟩:=run_append_rowAt (P:=Try.prog) w.heap.size 23 23 3 i0 (.int .i64 0) 1 8 Try.underlying23 hi hz0 B.out.1 B.out.2 rfl (by decide) _ _ _ hown2 (ra i) (nn i) (rc i) (ne i) (hr.out i hlt2) hbel2.block
      (by have:=tot_mono nn (i:=i+1) (j:=j) (by omega);have:=hbig.out;simp only [tot] at *; unfold maxLen;omega) (by have:=tot_mono nn (i:=i+1) (j:=j) (by omega);have:=hbig.out;simp only [tot] at *; omega) hbel2.size
     have hbel3:Below w.heap.size w w2:=by
      refine hbel2.trans ⟨hgr.os,hgr.tape,hgr.output,hgr.size,fun k hk=>hgr.block k (Nat.lt_of_lt_of_le hk hbel2.size) fun he=>?_⟩
      rcases hown2.2 with ⟨h1,_⟩|⟨g,cap,cur,h1,h2,_⟩
      ·rw [h1] at he;simp [Value.ownBlock] at he
      ·rw [h1] at he;simp [Value.ownBlock] at he;omega
     have hnil4:tot nn j=0→v2=.slice none 0 0:=fun h0=>by
      have:=tot_mono nn (i:=i+1) (j:=j) (by omega)
      rw [hnil3 (by simp only [tot] at *; omega),hnil2 h0]
     have hlt3:(i:Int) < (j:Int):=by omega
     have H:Aside (w2.ownsRow w.heap.size 3 1 v2 (tot nn (i+1)) (cat ne (i+1))∧(tot nn j=0→v2=.slice none 0 0)∧Below w.heap.size w w2):=⟨hown3,hnil4,hbel3⟩
     clear hown3 hnil4 hbel3 hnil3 hgr hown2 hnil2 hbel2 hown hnil hbel
     go_wp2_with (at_builtin;refine Lib.wpList_append_run _ rfl _ _ _ _ rfl _ _ rfl rfl _ _ hrun ?_)
     go_roundg (j - (i+1))
     case measure=>omega
     case rel=>exact ⟨i+1,rfl,by omega,by simp;exact wrap_add (a:=i) (b:=1) (by have:=hN.out;omega),H.out.1,H.out.2⟩
    ·obtain rfl:i=j:=by omega
     go_wp2
     go_ret
     exact ⟨_,rfl,hown2,hnil2,hbel2⟩

def C106:List AV→Option AV:=specP (X:=List (List Int) × Unit) fun x=>slices_Concat_int x.1
theorem C106_eq {s:List (List Int)} {y} (h:slices_Concat_int s=some y):C106 [av .shr s]=some (Res.res y):=zaf (X:=List (List Int) × Unit) (F:=fun x=>slices_Concat_int x.1) (x:=(s,())) h
theorem pc106:PC Try.prog 106 C106 :=
 pc_concat (α:=Int) (e:=3) (bytes:=8) ⟨Try.f106,Try.func106,by kernel_rfl,by kernel_rfl⟩
  fun xa xb xo N xc ra nn rc ne w h1 h2 h3 h4 h5=>concat106 xa xb xo N xc ra nn rc ne w h1 h2 h3 h4 h5
end Go.Proofs

