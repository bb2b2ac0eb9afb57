import Derived.Test.YtmmliafoddlgfaaGreatEvA6
import Derived.Test.YtmmliafoddlgfaaGreatEvA9
import Derived.Test.YtmmliafoddlgfaaGreatEvA8
set_option linter.unusedSimpArgs false
set_option linter.unusedVariables false
set_option linter.unnecessarySimpa false
noncomputable section
namespace Go.Ev
def small (n:Nat):Prop:=n≤4000000

theorem findE {α:Type} (p:α→Bool):∀ (xs:List α) (i:Nat),
 foldE (β:=Unit) (ρ:=Int ⊕ Unit) (fun _ i x=>if p x then some (.inr (.inl (i:Int))) else some (.inl ())) (fun _=>some (.inr ())) () i xs =
  some (match xs.findIdx? p with | some j=>.inl ((i+j:Nat):Int) | none=>.inr ())
 | [],i=>rfl
 | x :: xs,i=>by
  rw [foldE]
  by_cases h:p x=true
  ·simp [h,List.findIdx?_cons]
  ·simp only [h,if_false,Bool.false_eq_true]
   rw [findE p xs (i+1),List.findIdx?_cons]
   simp only [h,if_false,Bool.false_eq_true]
   cases xs.findIdx? p with
   | none=>rfl
   | some j=>simp only [Option.map_some,Option.some.injEq,Sum.inl.injEq];omega

theorem index_int (xs:List Int) (v:Int) (hl:small xs.length):slices_Index_int xs v=some (match xs.findIdx? (fun x=>decide (v=x)) with | some j=>(j:Int) | none=>-1):=by
 unfold slices_Index_int
 rw [iter_list xs (fun (_:Unit) i=>i) (fun _ i x=>if decide (v=x)=true then some (.inr (.inl (i:Int))) else some (.inl ())) (fun _=>some (.inr ())) (fun b i x hx=>?_) (fun b=>?_) (),findE]
 ·cases xs.findIdx? (fun x=>decide (v=x)) with
  | none=>rfl
  | some j=>simp
 ·have hlt:=(List.getElem?_eq_some_iff.1 hx).1
  unfold small at hl
  rw [at_nat,hx,addI_eq (by omega) (by omega)]
  simp only [ltI,eqI,cond_dec,Option.bind_some]
  rw [if_pos (by omega)]
  by_cases h:v=x <;> simp [h]
 ·simp [ltI]

theorem contains_int (xs:List Int) (v:Int) (hl:small xs.length):zam xs v=some (decide (v∈xs)):=by
 unfold zam
 rw [index_int xs v hl]
 simp only [Option.bind_some,leI,Option.some.injEq]
 cases h:xs.findIdx? (fun x=>decide (v=x)) with
 | none =>
  rw [List.findIdx?_eq_none_iff] at h
  have:v ∉ xs:=fun hm=>by simpa using h v hm
  simp [this]
 | some j =>
  rw [List.findIdx?_eq_some_iff_getElem] at h
  obtain ⟨hj,hp,_⟩:=h
  have:v∈xs:=by rw [of_decide_eq_true hp];exact List.getElem_mem hj
  simp [this]

theorem within_eq (n lo hi:Int):impl_within n lo hi=some (decide (lo≤n∧n≤hi)):=by
 unfold impl_within
 by_cases h:lo≤n <;> simp [leI,ltI,h]
theorem l1In_eq (n lo hi:Int):spec_l1In n lo hi=some (decide (lo≤n∧n≤hi)):=by
 unfold spec_l1In
 by_cases h:lo≤n <;> simp [leI,ltI,h]

theorem positions_eq:impl_Positions=spec_Positions:=rfl
def posF (n:Int):Nat→List Int→List Int
 | _,[]=>[]
 | i,x :: xs=>if x=n then (i:Int) :: posF n (i+1) xs else posF n (i+1) xs
theorem posE (n:Int) (N:Nat) (hN:small N):∀ (xs:List Int) (i:Nat) (acc:List Int),acc.length+xs.length≤N →
 foldE (β:=List Int) (ρ:=List Int) (fun acc i x=>if x=n then (room (acc.length+1) 8).bind fun _=>some (.inl (acc ++ [(i:Int)])) else some (.inl acc)) (fun acc=>some acc) acc i xs=some (acc ++ posF n i xs)
 | [],i,acc,_=>by simp [foldE,posF]
 | x :: xs,i,acc,h=>by
  rw [foldE]
  simp only [List.length_cons] at h
  by_cases hx:x=n
  ·unfold small at hN
   have hr:room (acc.length+1) 8=some ():=by unfold room maxBytes;rw [if_pos (by omega)]
   simp only [hx,if_true,hr,Option.bind_some]
   rw [posE n N hN xs (i+1) (acc ++ [(i:Int)]) (by simp;omega)]
   simp [posF,hx]
  ·simp only [hx,if_false]
   rw [posE n N hN xs (i+1) acc (by omega)]
   simp [posF,hx]
theorem positions (xs:List Int) (n:Int) (hl:small xs.length):spec_Positions xs n=some (posF n 0 xs):=by
 unfold spec_Positions
 rw [iter_list xs (fun (b:List Int) i=>(b,i)) (fun acc i x=>if x=n then (room (acc.length+1) 8).bind fun _=>some (.inl (acc ++ [(i:Int)])) else some (.inl acc)) (fun acc=>some acc) (fun b i x hx=>?_) (fun b=>?_) [],posE n xs.length hl xs 0 [] (by simp)]
 ·simp
 ·have hlt:=(List.getElem?_eq_some_iff.1 hx).1
  unfold small at hl
  simp only [at_nat,hx,ltI,eqI,cond_dec,Option.bind_some]
  rw [if_pos (by omega),addI_eq (by omega) (by omega)]
  by_cases h:x=n
  ·simp only [h,if_true,List.length_singleton]
   cases room (b.length+1) 8 <;> rfl
  ·simp [h]
 ·simp [ltI]
theorem posF_mem (n:Int):∀ (xs:List Int) (i:Nat),0 < (posF n i xs).length ↔ n∈xs
 | [],i=>by simp [posF]
 | x :: xs,i=>by
  simp only [posF]
  by_cases h:x=n
  ·simp [h]
  ·have:=posF_mem n xs (i+1)
   simp only [h,if_false,this,List.mem_cons]
   constructor
   ·exact .inr
   ·rintro (h' | h')
    ·exact absurd h'.symm h
    ·exact h'
theorem l7Has (xs:List Int) (n:Int) (hl:small xs.length):spec_l7Has xs n=some (decide (n∈xs)):=by
 unfold spec_l7Has
 rw [positions xs n hl]
 have:=posF_mem n xs 0
 simp only [Option.bind_some,ltI,Option.some.injEq]
 rw [decide_eq_decide,← this]
 omega

theorem nodup_bound:∀ (n:Nat) (xs:List Int),xs.Nodup→(∀ x∈xs,0≤x∧x < n)→xs.length≤n
 | 0,xs,_,h=>by
  cases xs with
  | nil=>exact Nat.le_refl _
  | cons x xs=>have:=h x (List.mem_cons_self ..);omega
 | n+1,xs,hn,h=>by
  have h1:=nodup_bound n (xs.erase (n:Int)) (hn.erase _) (fun x hx=>by
   have hx':=(hn.mem_erase_iff).1 hx
   have:=h x hx'.2
   have hne:=hx'.1
   omega)
  by_cases hm:(n:Int)∈xs
  ·rw [List.length_erase_of_mem hm] at h1;omega
  ·rw [List.erase_of_not_mem hm] at h1;omega

theorem isCell_eq (h:THeap) (n:Int) (hs:small h.next.length):impl_Heap_isCell h n=some (decide (0≤n∧n < (h.next.length:Int))):=by
 unfold impl_Heap_isCell
 unfold small at hs
 rw [within_eq,subI_eq (by omega) (by omega)]
 simp only [Option.bind_some,Option.some.injEq,decide_eq_decide]
 omega

def fol (next:List Int):Nat→Int→List Int→(List Int) ⊕ Unit
 | 0,_,out=>.inl out
 | f+1,cur,out=>if cur = -1 then .inl out else if cur∈out then .inl out else if 0≤cur∧cur < (next.length:Int) then fol next f (next.getD cur.toNat 0) (out ++ [cur]) else .inr ()

theorem at_in {xs:List Int} {c:Int} (h:0≤c∧c < (xs.length:Int)):at? xs c=some (xs.getD c.toNat 0):=by
 unfold at?
 rw [if_pos h.1]
 have:c.toNat < xs.length:=by omega
 simp [List.getD,List.getElem?_eq_getElem this]
structure Seen (next out:List Int):Prop where
 nd:out.Nodup
 rng:∀ x∈out,0≤x∧x < (next.length:Int)
theorem Seen.len {next out:List Int} (h:Seen next out):out.length≤next.length:=nodup_bound _ _ h.nd h.rng
theorem Seen.push {next out:List Int} (h:Seen next out) {c:Int} (hc:c ∉ out) (hr:0≤c∧c < (next.length:Int)):Seen next (out ++ [c]) :=
 ⟨by rw [List.nodup_append];exact ⟨h.nd,by simp,fun a ha b hb=>by simp at hb;subst hb;rintro rfl;exact hc ha⟩,fun x hx=>by
  rcases List.mem_append.1 hx with hx | hx
  ·exact h.rng x hx
  ·simp at hx;subst hx;exact hr⟩

theorem spec_fol (h:THeap) (hs:small h.next.length):∀ (f:Nat) (cur:Int) (out:List Int),Seen h.next out→h.next.length+1≤f+out.length →
 iter (ρ:=((List Int)) ⊕ (Unit)) (fun s_1:Int × (List Int) =>
  cond (neI s_1.1 (-1))
   ((spec_l7Has s_1.2 s_1.1).bind fun y_12 =>
    cond y_12
     (some (.inr (.inl s_1.2)))
     ((spec_l1In s_1.1 0 (subI (h.next.length:Int) 1)).bind fun y_16 =>
      cond y_16
       ((room (s_1.2.length + [s_1.1].length) 8).bind fun _ =>
        (at? h.next s_1.1).bind fun e_22 =>
         some (.inl (e_22,s_1.2 ++ [s_1.1])))
       (some (.inr (.inr ())))))
   (some (.inr (.inl s_1.2)))) (cur,out)=some (fol h.next f cur out)
 | 0,cur,out,hS,hf=>by have:=hS.len;omega
 | f+1,cur,out,hS,hf=>by
  have hl:=hS.len
  have hs':=hs
  unfold small at hs'
  have hso:small out.length:=by unfold small;omega
  by_cases h1:cur = -1
  ·rw [iter_inr (r:=.inl out) (by simp [neI,h1])]
   simp [fol,h1]
  ·by_cases h2:cur∈out
   ·rw [iter_inr (r:=.inl out) (by simp [neI,h1,l7Has out cur hso,h2])]
    simp [fol,h1,h2]
   ·by_cases h3:0≤cur∧cur < (h.next.length:Int)
    ·have hr:room (out.length+1) 8=some ():=by unfold room maxBytes;rw [if_pos (by omega)]
     rw [iter_inl (s':=(h.next.getD cur.toNat 0,out ++ [cur])) (by
      have h4:0≤cur∧cur≤(h.next.length:Int) - 1:=by omega
      simp only [neI,h1,decide_false,Bool.not_false,cond_true,l7Has out cur hso,h2,Option.bind_some,cond_false,l1In_eq,subI_eq (a:=(h.next.length:Int)) (b:=1) (by omega) (by omega),h4,and_self,decide_true,List.length_singleton,hr,at_in h3]),
      spec_fol h hs f _ _ (hS.push h2 h3) (by simp;omega)]
     simp [fol,h1,h2,h3]
    ·rw [iter_inr (r:=.inr ()) (by
      have h4:¬ (0≤cur∧cur≤(h.next.length:Int) - 1):=by omega
      simp only [neI,h1,decide_false,Bool.not_false,cond_true,l7Has out cur hso,h2,Option.bind_some,cond_false,l1In_eq,subI_eq (a:=(h.next.length:Int)) (b:=1) (by omega) (by omega),h4])]
     simp [fol,h1,h2,h3]

def folL (next:List Int) (c:Int):List Int:=Sum.elim id (fun _=>[]) (fol next (next.length+1) c [])
theorem spec_followed (h:THeap) (hs:small h.next.length) (c:Int):spec_Followed h c=some (folL h.next c):=by
 unfold spec_Followed
 rw [spec_fol h hs (h.next.length+1) c [] ⟨by simp,by simp⟩ (by simp)]
 unfold folL
 cases fol h.next (h.next.length+1) c [] <;> rfl

theorem impl_fol (h:THeap) (hs:small h.next.length) (cell:Int) (hc:cell≠-1):∀ (f:Nat) (cur:Int) (out:List Int),Seen h.next out→h.next.length+1≤f+out.length →
 iter (ρ:=((List Int)) ⊕ (Unit)) (fun s_1:(List Int) × Int =>
  cond (neI s_1.2 (-1))
   ((impl_Heap_isCell h s_1.2).bind fun y_13 =>
    cond y_13
     ((zam s_1.1 s_1.2).bind fun y_17 =>
      cond y_17
       (some (.inr (.inl s_1.1)))
       ((room (s_1.1.length + [s_1.2].length) 8).bind fun _ =>
        (at? h.next s_1.2).bind fun e_23 =>
         some (.inl (s_1.1 ++ [s_1.2],e_23))))
     (some (.inr (.inr ()))))
   (cond (eqI cell (-1))
    ((impl_Heap_isCell h s_1.2).bind fun y_29 =>
     cond y_29
      ((zam s_1.1 s_1.2).bind fun y_33 =>
       cond y_33
        (some (.inr (.inl s_1.1)))
        ((room (s_1.1.length + [s_1.2].length) 8).bind fun _ =>
         (at? h.next s_1.2).bind fun e_39 =>
          some (.inl (s_1.1 ++ [s_1.2],e_39))))
      (some (.inr (.inr ()))))
    (some (.inr (.inl s_1.1))))) (out,cur)=some (fol h.next f cur out)
 | 0,cur,out,hS,hf=>by have:=hS.len;omega
 | f+1,cur,out,hS,hf=>by
  have hl:=hS.len
  have hs':=hs
  unfold small at hs'
  have hso:small out.length:=by unfold small;omega
  by_cases h1:cur = -1
  ·rw [iter_inr (r:=.inl out) (by simp [neI,eqI,h1,hc])]
   simp [fol,h1]
  ·by_cases h3:0≤cur∧cur < (h.next.length:Int)
   ·by_cases h2:cur∈out
    ·rw [iter_inr (r:=.inl out) (by simp [neI,h1,isCell_eq h cur hs,h3,contains_int out cur hso,h2])]
     simp [fol,h1,h2]
    ·have hr:room (out.length+1) 8=some ():=by unfold room maxBytes;rw [if_pos (by omega)]
     rw [iter_inl (s':=(out ++ [cur],h.next.getD cur.toNat 0)) (by
      simp only [neI,h1,decide_false,Bool.not_false,cond_true,isCell_eq h cur hs,h3,contains_int out cur hso,h2,Option.bind_some,cond_false,and_self,decide_true,List.length_singleton,hr,at_in h3]),
      impl_fol h hs cell hc f _ _ (hS.push h2 h3) (by simp;omega)]
     simp [fol,h1,h2,h3]
   ·have h2:cur ∉ out:=fun hm=>h3 (hS.rng cur hm)
    rw [iter_inr (r:=.inr ()) (by simp only [neI,h1,decide_false,Bool.not_false,cond_true,isCell_eq h cur hs,h3,Option.bind_some,cond_false])]
    simp [fol,h1,h2,h3]

theorem impl_followed (h:THeap) (hs:small h.next.length) (c:Int):impl_Followed h c=some (folL h.next c):=by
 unfold impl_Followed
 by_cases hc:c = -1
 ·rw [iter_inr (r:=.inr ()) (by
   have:¬ (0≤c∧c < (h.next.length:Int)):=by omega
   simp [neI,eqI,hc,isCell_eq h _ hs])]
  simp [folL,fol,hc]
 ·rw [impl_fol h hs c hc (h.next.length+1) c [] ⟨by simp,by simp⟩ (by simp)]
  unfold folL
  cases fol h.next (h.next.length+1) c [] <;> rfl
theorem folL_len (next:List Int) (c:Int):(folL next c).length≤next.length:=by
 have key:∀ f cur out,Seen next out→(Sum.elim id (fun _=>[]) (fol next f cur out):List Int).length≤next.length:=by
  intro f
  induction f with
  | zero=>intro cur out hS;exact hS.len
  | succ f ih =>
   intro cur out hS
   simp only [fol]
   split
   ·exact hS.len
   ·split
    ·exact hS.len
    ·rename_i h2
     split
     ·rename_i h3;exact ih _ _ (hS.push h2 h3)
     ·simp
 exact key _ _ _ ⟨by simp,by simp⟩

theorem allE {α ρ:Type} (p:α→Bool) (rf rt:ρ):∀ (xs:List α) (i:Nat),foldE (β:=Unit) (fun _ _ x=>if p x then some (.inl ()) else some (.inr rf)) (fun _=>some rt) () i xs=some (if xs.all p then rt else rf)
 | [],_=>rfl
 | x :: xs,i=>by
  rw [foldE]
  by_cases h:p x=true
  ·simp only [h,if_true]
   rw [allE p rf rt xs (i+1)]
   simp [h]
  ·simp [h]
def inH (next:List Int) (n:Int):Bool:=decide (-1≤n∧n≤(next.length:Int) - 1)
def cellsB (h:THeap):Bool:=h.vars.all (inH h.next) && h.next.all (inH h.next)
theorem l7Cells (h:THeap) (hv:small h.vars.length) (hs:small h.next.length):spec_l7Cells h=some (cellsB h):=by
 have hv':=hv
 have hs':=hs
 unfold small at hv' hs'
 unfold spec_l7Cells
 rw [iter_list h.vars (fun (_:Unit) i=>i) (fun _ _ x=>if inH h.next x then some (.inl ()) else some (.inr (.inl ()))) (fun _=>some (.inr ())) (fun b i x hx=>?_) (fun b=>?_) (),allE]
 ·simp only [Option.bind_some]
  by_cases h1:h.vars.all (inH h.next)=true
  ·rw [if_pos h1]
   simp only [Sum.elim_inr]
   rw [iter_list h.next (fun (_:Unit) i=>i) (fun _ _ x=>if inH h.next x then some (.inl ()) else some (.inr (.inl false))) (fun _=>some (.inr ())) (fun b i x hx=>?_) (fun b=>?_) (),allE]
   ·by_cases h2:h.next.all (inH h.next)=true
    ·simp only [h2,if_true,Option.bind_some,Sum.elim_inr,cellsB,h1,Bool.and_self]
    ·simp only [h2,if_false,Option.bind_some,Sum.elim_inl,cellsB,h1,Bool.true_and,Bool.false_eq_true]
   ·have hlt:=(List.getElem?_eq_some_iff.1 hx).1
    simp only [at_nat,hx,ltI,cond_dec,Option.bind_some,l1In_eq]
    rw [if_pos (by omega),addI_eq (by omega) (by omega),subI_eq (by omega) (by omega)]
    by_cases h3:-1≤x∧x≤(h.next.length:Int) - 1 <;> simp [inH,h3]
   ·simp [ltI]
  ·rw [if_neg h1]
   simp [cellsB,h1]
 ·have hlt:=(List.getElem?_eq_some_iff.1 hx).1
  simp only [at_nat,hx,ltI,cond_dec,Option.bind_some,l1In_eq]
  rw [if_pos (by omega),addI_eq (by omega) (by omega),subI_eq (by omega) (by omega)]
  by_cases h3:-1≤x∧x≤(h.next.length:Int) - 1 <;> simp [inH,h3]
 ·simp [ltI]

theorem indexF {α:Type} (xs:List α) (f:α→Option Bool) (p:α→Bool) (hf:∀ x∈xs,f x=some (p x)) (hl:small xs.length) :
 iter (ρ:=(Int) ⊕ (Unit)) (fun s_1:Int =>
  cond (ltI s_1 (xs.length:Int))
   ((at? xs s_1).bind fun e_12 =>
    (f e_12).bind fun y_17 =>
     cond y_17
      (some (.inr (.inl s_1)))
      (some (.inl (addI s_1 1))))
   (some (.inr (.inr ())))) 0=some (match xs.findIdx? p with | some j=>.inl (j:Int) | none=>.inr ()):=by
 rw [iter_list xs (fun (_:Unit) i=>i) (fun _ i x=>if p x=true then some (.inr (.inl (i:Int))) else some (.inl ())) (fun _=>some (.inr ())) (fun b i x hx=>?_) (fun b=>?_) (),findE]
 ·simp
 ·have hlt:=(List.getElem?_eq_some_iff.1 hx).1
  unfold small at hl
  simp only [at_nat,hx,Option.bind_some,ltI,cond_dec,hf x (List.mem_of_getElem? hx)]
  rw [if_pos (by omega),addI_eq (by omega) (by omega)]
  cases p x <;> simp
 ·simp [ltI]
theorem containsF_of {α:Type} (xs:List α) (p:α→Bool):leI 0 (match xs.findIdx? p with | some j=>(j:Int) | none=>-1)=xs.any p:=by
 cases h:xs.findIdx? p with
 | none =>
  rw [List.findIdx?_eq_none_iff] at h
  have:xs.any p=false:=List.any_eq_false.2 fun x hx=>by simp [h x hx]
  rw [this];rfl
 | some j =>
  rw [List.findIdx?_eq_some_iff_getElem] at h
  obtain ⟨hj,hp,_⟩:=h
  have:xs.any p=true:=List.any_eq_true.2 ⟨_,List.getElem_mem hj,hp⟩
  rw [this]
  simp [leI]
theorem containsFunc_int (xs:List Int) (f:Int→Option Bool) (p:Int→Bool) (hf:∀ x∈xs,f x=some (p x)) (hl:small xs.length):slices_ContainsFunc_int xs f=some (xs.any p):=by
 unfold slices_ContainsFunc_int slices_IndexFunc_int
 rw [indexF xs f p hf hl,← containsF_of]
 cases xs.findIdx? p <;> rfl
theorem room_small {n b:Nat} (hn:n≤4000000) (hb:b≤1000):room n b=some ():=by
 unfold room maxBytes
 have:n * (b+1)≤4000000 * 1001:=Nat.mul_le_mul hn (by omega)
 rw [if_pos (by omega)]
theorem areCells (h:THeap) (hvs:small (h.vars ++ h.next).length) (hv:small h.vars.length) (hs:small h.next.length):impl_Heap_areCells h=some (cellsB h):=by
 have hv':=hv
 have hs':=hs
 unfold small at hv' hs'
 have hc:slices_Concat_int [h.vars,h.next]=some (h.vars ++ h.next):=by
  unfold slices_Concat_int lib_Concat
  rw [room_small (by simp) (by omega),room_small (by unfold small at hvs;simpa using hvs) (by omega)]
  simp
 unfold impl_Heap_areCells
 rw [hc]
 have hp:∀ n:Int,impl_Heap_areCells_1 n h=some (!inH h.next n):=fun n=>by
  unfold impl_Heap_areCells_1
  rw [isCell_eq h n hs]
  by_cases h1:n = -1
  ·simp [neI,h1,inH];omega
  ·simp only [neI,h1,decide_false,Bool.not_false,cond_true,Option.bind_some,Option.some.injEq,inH]
   have:(0≤n∧n < (h.next.length:Int)) ↔ (-1≤n∧n≤(h.next.length:Int) - 1):=by omega
   rw [decide_eq_decide.2 this]
   rfl
 have hcf:slices_ContainsFunc_int (h.vars ++ h.next) (fun x0=>impl_Heap_areCells_1 x0 h)=some ((h.vars ++ h.next).any fun n=>!inH h.next n):=by
  exact containsFunc_int _ _ _ (fun x _=>hp x) hvs
 simp only [Option.bind_some,hcf,cellsB,List.any_append,Option.some.injEq]
 rw [← List.not_all_eq_any_not,← List.not_all_eq_any_not]
 cases h.vars.all (inH h.next) <;> cases h.next.all (inH h.next) <;> rfl

theorem folL_seen (next:List Int) (c:Int):Seen next (folL next c):=by
 have key:∀ f cur out,Seen next out→Seen next (Sum.elim id (fun _=>[]) (fol next f cur out):List Int):=by
  intro f
  induction f with
  | zero=>intro cur out hS;exact hS
  | succ f ih =>
   intro cur out hS
   simp only [fol]
   split
   ·exact hS
   ·split
    ·exact hS
    ·rename_i h2
     split
     ·rename_i h3;exact ih _ _ (hS.push h2 h3)
     ·exact ⟨by simp,by simp⟩
 exact key _ _ _ ⟨by simp,by simp⟩
def push (acc:List Int) (x:Int):List Int:=if x∈acc then acc else acc ++ [x]
theorem Seen.push' {next out:List Int} (h:Seen next out) {c:Int} (hr:0≤c∧c < (next.length:Int)):Seen next (Go.Ev.push out c):=by
 unfold Go.Ev.push
 split
 ·exact h
 ·rename_i hc;exact h.push hc hr
theorem Seen.pushs {next:List Int}:∀ (ys out:List Int),Seen next out→(∀ x∈ys,0≤x∧x < (next.length:Int))→Seen next (ys.foldl Go.Ev.push out)
 | [],_,h,_=>h
 | y :: ys,out,h,hr=>Seen.pushs ys _ (h.push' (hr y (List.mem_cons_self ..))) fun x hx=>hr x (List.mem_cons_of_mem _ hx)
theorem pushE (next:List Int) (hs:small next.length) (q:List Int→Int→Option Bool) (hq:∀ acc x,small acc.length→q acc x=some (decide (x∈acc))):∀ (ys:List Int) (i:Nat) (acc:List Int),Seen next acc→(∀ x∈ys,0≤x∧x < (next.length:Int)) →
 foldE (β:=List Int) (ρ:=List Int) (fun acc _ x=>(q acc x).bind fun b=>cond b (some (.inl acc)) ((room (acc.length+1) 8).bind fun _=>some (.inl (acc ++ [x])))) (fun acc=>some acc) acc i ys=some (ys.foldl push acc)
 | [],_,_,_,_=>rfl
 | y :: ys,i,acc,h,hr=>by
  have hl:=h.len
  unfold small at hs
  have hsa:small acc.length:=by unfold small;omega
  rw [foldE]
  by_cases hm:y∈acc
  ·simp only [hq acc y hsa,hm,decide_true,Option.bind_some,cond_true]
   rw [pushE next hs q hq ys (i+1) acc h fun x hx=>hr x (List.mem_cons_of_mem _ hx)]
   simp [push,hm]
  ·have hroom:room (acc.length+1) 8=some ():=by unfold room maxBytes;rw [if_pos (by omega)]
   simp only [hq acc y hsa,hm,decide_false,Option.bind_some,cond_false,hroom]
   rw [pushE next hs q hq ys (i+1) _ (h.push hm (hr y (List.mem_cons_self ..))) fun x hx=>hr x (List.mem_cons_of_mem _ hx)]
   simp [push,hm]
def ordL (next vars:List Int):List Int:=vars.foldl (fun acc e=>(folL next e).foldl push acc) []
theorem ordSeen (next:List Int):∀ (vs acc:List Int),Seen next acc→Seen next (vs.foldl (fun acc e=>(folL next e).foldl push acc) acc)
 | [],_,h=>h
 | v :: vs,acc,h=>ordSeen next vs _ (Seen.pushs _ _ h (folL_seen next v).rng)

theorem ordE (next:List Int) (F:List Int→Int→Option (List Int)) (hF:∀ acc e,Seen next acc→F acc e=some ((folL next e).foldl push acc)):∀ (vs:List Int) (i:Nat) (acc:List Int),Seen next acc →
 foldE (β:=List Int) (ρ:=List Int) (fun acc _ e=>(F acc e).map .inl) (fun acc=>some acc) acc i vs=some (vs.foldl (fun acc e=>(folL next e).foldl push acc) acc)
 | [],_,_,_=>rfl
 | v :: vs,i,acc,h=>by
  rw [foldE,hF acc v h]
  simp only [Option.map_some]
  rw [ordE next F hF vs (i+1) _ (Seen.pushs _ _ h (folL_seen next v).rng)]
  rfl
theorem met (h:THeap) (hv:small h.vars.length) (hs:small h.next.length):impl_Heap_met h=some (ordL h.next h.vars):=by
 unfold impl_Heap_met
 have hv':=hv
 unfold small at hv'
 rw [iter_list h.vars (fun (b:List Int) i=>(b,i)) (fun acc _ e=>(iter (ρ:=(List Int)) (fun s_22:Int × (List Int) =>
               cond (ltI s_22.1 ((folL h.next e).length:Int))
                ((at? (folL h.next e) s_22.1).bind fun e_38 =>
                 (zam s_22.2 e_38).bind fun y_43 =>
                  cond y_43
                   (some (.inl (addI s_22.1 1,s_22.2)))
                   ((room (s_22.2.length + [e_38].length) 8).bind fun _ =>
                    some (.inl (addI s_22.1 1,s_22.2 ++ [e_38]))))
                (some (.inr s_22.2))) (0,acc)).map .inl) (fun acc=>some acc) (fun b i x hx=>?_) (fun b=>?_) []]
 ·rw [ordE h.next (fun acc e=>iter (ρ:=(List Int)) (fun s_22:Int × (List Int) =>
             cond (ltI s_22.1 ((folL h.next e).length:Int))
              ((at? (folL h.next e) s_22.1).bind fun e_38 =>
               (zam s_22.2 e_38).bind fun y_43 =>
                cond y_43
                 (some (.inl (addI s_22.1 1,s_22.2)))
                 ((room (s_22.2.length + [e_38].length) 8).bind fun _ =>
                  some (.inl (addI s_22.1 1,s_22.2 ++ [e_38]))))
              (some (.inr s_22.2))) (0,acc)) (fun acc e hS=>?_) h.vars 0 [] ⟨by simp,by simp⟩]
  ·rfl
  ·have hfl:=folL_len h.next e
   have hs':=hs
   unfold small at hs'
   rw [iter_list (folL h.next e) (fun (b:List Int) i=>(i,b)) (fun acc _ x=>(zam acc x).bind fun b=>cond b (some (.inl acc)) ((room (acc.length+1) 8).bind fun _=>some (.inl (acc ++ [x])))) (fun acc=>some acc) (fun b i x hx=>?_) (fun b=>?_) acc,
    pushE h.next hs zam contains_int _ _ _ hS (folL_seen h.next e).rng]
   ·have hlt:=(List.getElem?_eq_some_iff.1 hx).1
    simp only [at_nat,hx,Option.bind_some,ltI,cond_dec]
    rw [if_pos (by omega),addI_eq (by omega) (by omega)]
    cases zam b x with
    | none=>rfl
    | some t =>
     cases t with
     | true=>rfl
     | false =>
      simp only [Option.bind_some,cond_false,List.length_singleton]
      cases room (b.length+1) 8 <;> rfl
   ·simp [ltI]
 ·have hlt:=(List.getElem?_eq_some_iff.1 hx).1
  simp only [at_nat,hx,Option.bind_some,ltI,cond_dec,impl_followed h hs]
  rw [if_pos (by omega),addI_eq (by omega) (by omega)]
  generalize iter _ _=r
  cases r <;> rfl
 ·simp [ltI]
theorem l7Order (h:THeap) (hv:small h.vars.length) (hs:small h.next.length):spec_l7Order h=some (ordL h.next h.vars):=by
 unfold spec_l7Order
 have hv':=hv
 unfold small at hv'
 rw [iter_list h.vars (fun (b:List Int) i=>(b,i)) (fun acc _ e=>(iter (ρ:=(List Int)) (fun s_22:Int × (List Int) =>
               cond (ltI s_22.1 ((folL h.next e).length:Int))
                ((at? (folL h.next e) s_22.1).bind fun e_38 =>
                 (spec_l7Has s_22.2 e_38).bind fun y_43 =>
                  cond y_43
                   (some (.inl (addI s_22.1 1,s_22.2)))
                   ((at? (folL h.next e) s_22.1).bind fun _ =>
                    (room (s_22.2.length + [e_38].length) 8).bind fun _ =>
                     some (.inl (addI s_22.1 1,s_22.2 ++ [e_38]))))
                (some (.inr s_22.2))) (0,acc)).map .inl) (fun acc=>some acc) (fun b i x hx=>?_) (fun b=>?_) []]
 ·rw [ordE h.next (fun acc e=>iter (ρ:=(List Int)) (fun s_22:Int × (List Int) =>
             cond (ltI s_22.1 ((folL h.next e).length:Int))
              ((at? (folL h.next e) s_22.1).bind fun e_38 =>
               (spec_l7Has s_22.2 e_38).bind fun y_43 =>
                cond y_43
                 (some (.inl (addI s_22.1 1,s_22.2)))
                 ((at? (folL h.next e) s_22.1).bind fun _ =>
                  (room (s_22.2.length + [e_38].length) 8).bind fun _ =>
                   some (.inl (addI s_22.1 1,s_22.2 ++ [e_38]))))
              (some (.inr s_22.2))) (0,acc)) (fun acc e hS=>?_) h.vars 0 [] ⟨by simp,by simp⟩]
  ·rfl
  ·have hfl:=folL_len h.next e
   have hs':=hs
   unfold small at hs'
   rw [iter_list (folL h.next e) (fun (b:List Int) i=>(i,b)) (fun acc _ x=>(spec_l7Has acc x).bind fun b=>cond b (some (.inl acc)) ((room (acc.length+1) 8).bind fun _=>some (.inl (acc ++ [x])))) (fun acc=>some acc) (fun b i x hx=>?_) (fun b=>?_) acc,
    pushE h.next hs spec_l7Has l7Has _ _ _ hS (folL_seen h.next e).rng]
   ·have hlt:=(List.getElem?_eq_some_iff.1 hx).1
    simp only [at_nat,hx,Option.bind_some,ltI,cond_dec]
    rw [if_pos (by omega),addI_eq (by omega) (by omega)]
    cases spec_l7Has b x with
    | none=>rfl
    | some t =>
     cases t with
     | true=>rfl
     | false =>
      simp only [Option.bind_some,cond_false,List.length_singleton]
      cases room (b.length+1) 8 <;> rfl
   ·simp [ltI]
 ·have hlt:=(List.getElem?_eq_some_iff.1 hx).1
  simp only [at_nat,hx,Option.bind_some,ltI,cond_dec,spec_followed h hs]
  rw [if_pos (by omega),addI_eq (by omega) (by omega)]
  generalize iter _ _=r
  cases r <;> rfl
 ·simp [ltI]

def Tot {α:Type} (o:Option α) (Q:α→Prop):Prop:=∃ a,o=some a∧Q a
theorem Tot.ret {α:Type} {a:α} {Q:α→Prop} (h:Q a):Tot (some a) Q:=⟨a,rfl,h⟩
theorem Tot.bind {α β:Type} {o:Option α} {f:α→Option β} {P:α→Prop} {Q:β→Prop} (h:Tot o P) (hf:∀ a,P a→Tot (f a) Q):Tot (o.bind f) Q:=by
 obtain ⟨a,rfl,hP⟩:=h
 exact hf a hP
theorem Tot.mono {α:Type} {o:Option α} {P Q:α→Prop} (h:Tot o P) (hq:∀ a,P a→Q a):Tot o Q:=by
 obtain ⟨a,h1,h2⟩:=h
 exact ⟨a,h1,hq a h2⟩
theorem Tot.eq {α:Type} {o:Option α} {a:α} (h:Tot o (· = a)):o=some a:=by
 obtain ⟨b,h1,rfl⟩:=h
 exact h1
theorem Tot.of {α:Type} {o:Option α} {a:α} {Q:α→Prop} (h:o=some a) (hq:Q a):Tot o Q:=⟨a,h,hq⟩
theorem Tot.loop {σ ρ:Type} {step:σ→Option (σ ⊕ ρ)} {Q:ρ→Prop} (I:Nat→σ→Prop) (n:Nat) {s:σ} (h0:I 0 s)
 (h:∀ i s,I i s→i≤n→Tot (step s) (Sum.elim (fun s'=>i < n∧I (i+1) s') Q)):Tot (iter step s) Q:=by
 have key:∀ (k i:Nat) (s:σ),I i s→i+k=n→Tot (iter step s) Q:=by
  intro k
  induction k with
  | zero =>
   intro i s hI hk
   obtain ⟨o,ho,hq⟩:=h i s hI (by omega)
   cases o with
   | inl s'=>exact absurd hq.1 (by omega)
   | inr r=>exact ⟨r,iter_inr ho,hq⟩
  | succ k ih =>
   intro i s hI hk
   obtain ⟨o,ho,hq⟩:=h i s hI (by omega)
   cases o with
   | inl s'=>rw [iter_inl ho];exact ih (i+1) s' hq.2 (by omega)
   | inr r=>exact ⟨r,iter_inr ho,hq⟩
 exact key n 0 s h0 (by omega)
theorem loop_flat {α γ σ:Type} (S:List γ→Int→σ) (lo:Int) (xs:List α) (g:α→List γ) {acc:List γ} {step:σ→Option (σ ⊕ List γ)}
 (h:∀ (i:Nat) x b,xs[i]?=some x→b.length+(g x).length≤acc.length+(xs.flatMap g).length→step (S b (lo+i))=some (.inl (S (b ++ g x) (lo+i+1))))
 (he:∀ b,step (S b (lo+xs.length))=some (.inr b)):iter step (S acc lo)=some (acc ++ xs.flatMap g):=by
 have key:∀ (suf:List α) (i:Nat) (b:List γ),xs.drop i=suf→i+suf.length=xs.length→b.length+(suf.flatMap g).length=acc.length+(xs.flatMap g).length →
  iter step (S b (lo+i))=some (b ++ suf.flatMap g):=by
  intro suf
  induction suf with
  | nil =>
   intro i b _ hi _
   simp only [List.length_nil,Nat.add_zero] at hi
   subst hi
   rw [iter_inr (he b)];simp
  | cons x suf ih =>
   intro i b hd hi hb
   have hx:xs[i]?=some x:=by
    have:=congrArg (fun l=>l[0]?) hd
    simpa using this
   have hd2:xs.drop (i+1)=suf:=by
    have:=congrArg List.tail hd
    simpa using this
   simp only [List.length_cons] at hi
   simp only [List.flatMap_cons,List.length_append] at hb
   rw [iter_inl (h i x b hx (by omega))]
   have:=ih (i+1) (b ++ g x) hd2 (by omega) (by simp only [List.length_append];omega)
   rw [show lo+(i:Int)+1=lo+((i+1:Nat):Int) by omega,this]
   simp
 have:=key xs 0 acc rfl (by simp) rfl
 simpa using this
def nx (next:List Int) (c:Int):Int:=if c = -1 then -1 else next.getD c.toNat 0
def orb (next:List Int):Nat→Int→Int
 | 0,c=>c
 | k+1,c=>nx next (orb next k c)
def orbs (next:List Int) (c:Int) (m:Nat):List Int:=(List.range m).map fun k=>orb next k c
theorem orb_add (next:List Int) (c:Int):∀ a b,orb next (a+b) c=orb next a (orb next b c)
 | 0,b=>by simp [orb]
 | a+1,b=>by rw [show a+1+b=(a+b)+1 by omega,orb,orb_add next c a b,orb]
theorem orb_stop (next:List Int):∀ k,orb next k (-1) = -1
 | 0=>rfl
 | k+1=>by rw [orb,orb_stop next k];simp [nx]
def Cells (next:List Int):Prop:=∀ x∈next,-1≤x∧x < (next.length:Int)
theorem nx_in {next:List Int} (hC:Cells next) {c:Int} (h:-1≤c∧c < (next.length:Int)):-1≤nx next c∧nx next c < (next.length:Int):=by
 unfold nx
 split
 ·omega
 ·have hlt:c.toNat < next.length:=by omega
  have:=hC _ (List.getElem_mem hlt)
  simpa [List.getD,List.getElem?_eq_getElem hlt] using this
theorem orb_in {next:List Int} (hC:Cells next) {c:Int} (h:-1≤c∧c < (next.length:Int)):∀ k,-1≤orb next k c∧orb next k c < (next.length:Int)
 | 0=>h
 | k+1=>nx_in hC (orb_in hC h k)
theorem orbs_succ (next:List Int) (c:Int) (m:Nat):orbs next c (m+1)=orbs next c m ++ [orb next m c]:=by simp [orbs,List.range_succ]
theorem orbs_mem {next:List Int} {c x:Int} {m:Nat}:x∈orbs next c m ↔ ∃ k,k < m∧orb next k c=x:=by simp [orbs]
theorem fol_orb {next:List Int} (hC:Cells next) {c:Int} (hc:-1≤c∧c < (next.length:Int)):∀ (f m:Nat),Seen next (orbs next c m)→next.length+1≤f+m →
 ∃ m',fol next f (orb next m c) (orbs next c m)=.inl (orbs next c m')∧(orb next m' c = -1∨∃ k,k < m'∧orb next k c=orb next m' c)
 | 0,m,hS,hf=>by
  have:=hS.len
  simp only [orbs,List.length_map,List.length_range] at this
  omega
 | f+1,m,hS,hf=>by
  rw [fol]
  by_cases h1:orb next m c = -1
  ·exact ⟨m,by simp [h1],.inl h1⟩
  ·rw [if_neg h1]
   by_cases h2:orb next m c∈orbs next c m
   ·exact ⟨m,by simp [h2],.inr (orbs_mem.1 h2)⟩
   ·have h3:=orb_in hC hc m
    have h4:0≤orb next m c∧orb next m c < (next.length:Int):=by omega
    rw [if_neg h2,if_pos h4,← orbs_succ]
    have hn:next.getD (orb next m c).toNat 0=orb next (m+1) c:=by rw [orb,nx,if_neg h1]
    rw [hn]
    exact fol_orb hC hc f (m+1) (by rw [orbs_succ];exact hS.push h2 h4) (by omega)
theorem folL_orb {next:List Int} (hC:Cells next) {c:Int} (hc:-1≤c∧c < (next.length:Int)):∃ m,folL next c=orbs next c m∧(orb next m c = -1∨∃ k,k < m∧orb next k c=orb next m c):=by
 obtain ⟨m,h1,h2⟩:=fol_orb hC hc (next.length+1) 0 ⟨by simp [orbs],by simp [orbs]⟩ (by omega)
 refine ⟨m,?_,h2⟩
 unfold folL
 have:fol next (next.length+1) c []=.inl (orbs next c m):=by simpa [orbs,orb] using h1
 rw [this]
 rfl
theorem folL_mem {next:List Int} (hC:Cells next) {c:Int} (hc:-1≤c∧c < (next.length:Int)):∀ (k:Nat),orb next k c≠-1→orb next k c∈folL next c:=by
 obtain ⟨m,h1,h2⟩:=folL_orb hC hc
 rw [h1]
 intro k
 induction k using Nat.strongRecOn with
 | _ k ih =>
  intro hk
  by_cases hlt:k < m
  ·exact orbs_mem.2 ⟨k,hlt,rfl⟩
  ·have e:orb next k c=orb next (k - m) (orb next m c):=by rw [← orb_add];congr 1;omega
   rcases h2 with h2 | ⟨j,hj,h2⟩
   ·rw [e,h2,orb_stop] at hk
    exact absurd rfl hk
   ·rw [← h2,← orb_add] at e
    rw [e] at hk ⊢
    exact ih _ (by omega) hk
theorem orb_per {next:List Int} {i:Int} {p:Nat} (h:orb next p i=i):∀ q,orb next (q * p) i=i
 | 0=>by simp [orb]
 | q+1=>by rw [Nat.add_mul,Nat.one_mul,orb_add,h,orb_per h q]
def cyc (next:List Int):Bool:=(List.range next.length).any fun i=>decide ((i:Int)∈folL next (nx next i))
def lastI (xs:List Int):Int:=xs.getD (xs.length - 1) 0
theorem acyc_iff {next:List Int} (hC:Cells next):(∀ i:Nat,i < next.length→folL next i≠[]∧nx next (lastI (folL next i)) = -1) ↔ cyc next=false:=by
 have hlast:∀ i:Nat,i < next.length→∃ m,folL next i=orbs next i (m+1)∧nx next (lastI (folL next i))=orb next (m+1) i∧(orb next (m+1) i = -1∨∃ k,k < m+1∧orb next k i=orb next (m+1) i):=by
  intro i hi
  obtain ⟨m,h1,h2⟩:=folL_orb hC (c:=i) (by omega)
  cases m with
  | zero =>
   rcases h2 with h2 | ⟨k,hk,_⟩
   ·simp only [orb] at h2;omega
   ·omega
  | succ m =>
   refine ⟨m,h1,?_,h2⟩
   rw [h1]
   have:lastI (orbs next i (m+1))=orb next m i:=by
    unfold lastI
    rw [orbs_succ]
    simp [List.getD]
   rw [this]
   rfl
 constructor
 ·intro hA
  unfold cyc
  rw [List.any_eq_false]
  intro i hi
  simp only [List.mem_range] at hi
  simp only [decide_eq_true_eq]
  intro hm
  obtain ⟨m,_,h2,_⟩:=hlast i hi
  have h3:=(hA i hi).2
  rw [h2] at h3
  obtain ⟨m',h4,_⟩:=folL_orb hC (nx_in hC (c:=i) (by omega))
  rw [h4,orbs_mem] at hm
  obtain ⟨k,_,hk⟩:=hm
  have h5:orb next (k+1) i=i:=by rw [orb_add];exact hk
  have h6:=orb_per h5 (m+1)
  have h7:orb next ((m+1) * (k+1)) i=orb next ((m+1) * k) (orb next (m+1) i):=by rw [← orb_add];congr 1
  rw [h7,h3,orb_stop] at h6
  omega
 ·intro hB i hi
  obtain ⟨m,h1,h2,h3⟩:=hlast i hi
  refine ⟨by rw [h1];simp [orbs],?_⟩
  rw [h2]
  rcases h3 with h3 | ⟨k,hk,h3⟩
  ·exact h3
  ·exfalso
   have hS:Seen next (orbs next i (m+1)):=h1 ▸ folL_seen next i
   have hj:=hS.rng (orb next m i) (orbs_mem.2 ⟨m,by omega,rfl⟩)
   have hB':=(List.any_eq_false.1 hB) (orb next m i).toNat (by simp only [List.mem_range];omega)
   simp only [decide_eq_true_eq] at hB'
   rw [show ((orb next m i).toNat:Int)=orb next m i by omega] at hB'
   apply hB'
   have e1:nx next (orb next m i)=orb next k i:=h3.symm
   have e2:orb next m i=orb next (m - k) (orb next k i):=by rw [← orb_add];congr 1;omega
   rw [e1]
   have:=folL_mem hC (orb_in hC (c:=i) (by omega) k) (m - k) (by rw [← e2];omega)
   rw [← e2] at this
   exact this
theorem small_fol {next:List Int} (hs:small next.length) (c:Int):small (folL next c).length:=Nat.le_trans (folL_len next c) hs
theorem impl_cyclic (h:THeap) (hs:small h.next.length) (hC:Cells h.next):impl_Heap_isCyclic h=some (cyc h.next):=by
 unfold impl_Heap_isCyclic
 have hs':=hs
 unfold small at hs'
 have key:Tot (iter (ρ:=(Bool) ⊕ (Unit)) (fun s_1:Int =>
  cond (ltI s_1 (h.next.length:Int))
   ((at? h.next s_1).bind fun e_12 =>
    (impl_Followed h e_12).bind fun y_17 =>
     (zam y_17 s_1).bind fun y_20 =>
      cond y_20
       (some (.inr (.inl true)))
       (some (.inl (addI s_1 1))))
   (some (.inr (.inr ())))) 0) (fun r=>Sum.elim (fun r=>some r) (fun _=>some false) r=some (cyc h.next)):=by
  refine Tot.loop (fun i s=>s=(i:Int)∧∀ j:Nat,j < i→¬ (j:Int)∈folL h.next (nx h.next j)) h.next.length ⟨rfl,fun j hj=>absurd hj (Nat.not_lt_zero _)⟩ fun i s hI hi=>?_
  obtain ⟨rfl,hI⟩:=hI
  simp only [ltI,cond_dec,at_nat]
  by_cases hlt:i < h.next.length
  ·have hn:nx h.next i=h.next[i]:=by unfold nx;rw [if_neg (by omega)];simp [List.getD,hlt]
   rw [if_pos (by omega),List.getElem?_eq_getElem hlt,addI_eq (by omega) (by omega)]
   simp only [Option.bind_some,impl_followed h hs,contains_int _ _ (small_fol hs _),← hn]
   by_cases hm:(i:Int)∈folL h.next (nx h.next i)
   ·simp only [hm,decide_true,cond_true]
    refine Tot.ret ?_
    simp only [Sum.elim_inr,Sum.elim_inl,Option.some.injEq]
    exact (List.any_eq_true.2 ⟨i,List.mem_range.2 hlt,by simpa using hm⟩).symm
   ·simp only [hm,decide_false,cond_false]
    refine Tot.ret ⟨hlt,by simp,fun j hj=>?_⟩
    by_cases hji:j=i
    ·subst hji;exact hm
    ·exact hI j (by omega)
  ·rw [if_neg (by omega)]
   refine Tot.ret ?_
   simp only [Sum.elim_inr,Option.some.injEq]
   refine (List.any_eq_false.2 fun j hj=>?_).symm
   have:=hI j (by have:=List.mem_range.1 hj;omega)
   simpa using this
 obtain ⟨r,h1,h2⟩:=key
 rw [h1]
 exact h2
theorem lastI_at {xs:List Int} (h:xs≠[]) (hl:small xs.length):at? xs (subI (xs.length:Int) 1)=some (lastI xs):=by
 have:0 < xs.length:=List.length_pos_iff.2 h
 unfold small at hl
 rw [subI_eq (by omega) (by omega)]
 unfold at? lastI
 rw [if_pos (by omega),show ((xs.length:Int) - 1).toNat=xs.length - 1 by omega]
 rw [List.getElem?_eq_getElem (by omega)]
 simp [List.getD,List.getElem?_eq_getElem (show xs.length - 1 < xs.length by omega)]
theorem lastI_mem {xs:List Int} (h:xs≠[]):lastI xs∈xs:=by
 have:0 < xs.length:=List.length_pos_iff.2 h
 unfold lastI
 simp [List.getD,List.getElem?_eq_getElem (show xs.length - 1 < xs.length by omega)]
theorem spec_acyclic (h:THeap) (hs:small h.next.length) (hC:Cells h.next):spec_l7Acyclic h=some (!cyc h.next):=by
 unfold spec_l7Acyclic
 have hs':=hs
 unfold small at hs'
 have key:Tot (iter (ρ:=(Unit) ⊕ (Unit)) (fun s_1:Int =>
  cond (ltI s_1 (h.next.length:Int))
   ((spec_Followed h s_1).bind fun y_11 =>
    cond (eqI (y_11.length:Int) 0)
     (some (.inr (.inl ())))
     ((at? y_11 (subI (y_11.length:Int) 1)).bind fun e_15 =>
      (at? h.next e_15).bind fun e_20 =>
       cond (neI e_20 (-1))
        (some (.inr (.inl ())))
        (some (.inl (addI s_1 1)))))
   (some (.inr (.inr ())))) 0) (fun r=>Sum.elim (fun _=>some false) (fun _=>some true) r=some (!cyc h.next)):=by
  refine Tot.loop (fun i s=>s=(i:Int)∧∀ j:Nat,j < i→folL h.next j≠[]∧nx h.next (lastI (folL h.next j)) = -1) h.next.length ⟨rfl,fun j hj=>absurd hj (Nat.not_lt_zero _)⟩ fun i s hI hi=>?_
  obtain ⟨rfl,hI⟩:=hI
  simp only [ltI,cond_dec]
  by_cases hlt:i < h.next.length
  ·rw [if_pos (by omega),addI_eq (by omega) (by omega)]
   simp only [Option.bind_some,spec_followed h hs,eqI,neI,cond_dec,cond_ndec]
   by_cases he:folL h.next i=[]
   ·rw [if_pos (by simp [he])]
    refine Tot.ret ?_
    simp only [Sum.elim_inr,Sum.elim_inl,Option.some.injEq]
    cases hc:cyc h.next with
    | true=>rfl
    | false=>exact absurd he ((acyc_iff hC).2 hc i hlt).1
   ·have hpos:0 < (folL h.next i).length:=List.length_pos_iff.2 he
    rw [if_neg (by omega),lastI_at he (small_fol hs _)]
    simp only [Option.bind_some]
    have hr:=(folL_seen h.next i).rng _ (lastI_mem he)
    have hn:at? h.next (lastI (folL h.next i))=some (nx h.next (lastI (folL h.next i))):=by
     rw [at_in hr,nx,if_neg (by omega)]
    rw [hn]
    simp only [Option.bind_some]
    by_cases hm:nx h.next (lastI (folL h.next i)) = -1
    ·rw [if_pos hm]
     refine Tot.ret ⟨hlt,by simp,fun j hj=>?_⟩
     by_cases hji:j=i
     ·subst hji;exact ⟨he,hm⟩
     ·exact hI j (by omega)
    ·rw [if_neg hm]
     refine Tot.ret ?_
     simp only [Sum.elim_inr,Sum.elim_inl,Option.some.injEq]
     cases hc:cyc h.next with
     | true=>rfl
     | false=>exact absurd ((acyc_iff hC).2 hc i hlt).2 hm
  ·rw [if_neg (by omega)]
   refine Tot.ret ?_
   simp only [Sum.elim_inr,Option.some.injEq]
   rw [(acyc_iff hC).1 fun j hj=>hI j (by omega)]
   rfl
 obtain ⟨r,h1,h2⟩:=key
 rw [h1]
 exact h2
theorem cells_of {h:THeap} (hc:cellsB h=true):Cells h.next:=by
 simp only [cellsB,Bool.and_eq_true,List.all_eq_true] at hc
 intro x hx
 have:=hc.2 x hx
 simp only [inH,decide_eq_true_eq] at this
 omega
theorem ordL_len (next vars:List Int):(ordL next vars).length≤next.length:=(ordSeen next vars [] ⟨by simp,by simp⟩).len
def ownPlaces (xs:List Int):Bool:=(List.range xs.length).all fun i=>decide (xs.getD i 0=(i:Int))
theorem own_loop (xs:List Int) (hl:small xs.length):Tot (iter (ρ:=(Unit) ⊕ (Unit)) (fun s_18:Int =>
                        cond (ltI s_18 (xs.length:Int))
                         ((at? xs s_18).bind fun e_29 =>
                          cond (neI e_29 s_18)
                           (some (.inr (.inl ())))
                           (some (.inl (addI s_18 1))))
                         (some (.inr (.inr ())))) 0) (fun r=>r=if ownPlaces xs then .inr () else .inl ()):=by
 unfold small at hl
 refine Tot.loop (fun i s=>s=(i:Int)∧∀ j:Nat,j < i→xs.getD j 0=(j:Int)) xs.length ⟨rfl,fun j hj=>absurd hj (Nat.not_lt_zero _)⟩ fun i s hI hi=>?_
 obtain ⟨rfl,hI⟩:=hI
 simp only [ltI,neI,cond_dec,cond_ndec,at_nat]
 by_cases hlt:i < xs.length
 ·have hg:xs.getD i 0=xs[i]:=by simp [List.getD,hlt]
  rw [if_pos (by omega),List.getElem?_eq_getElem hlt,addI_eq (by omega) (by omega)]
  simp only [Option.bind_some]
  by_cases hm:xs[i]=(i:Int)
  ·rw [if_pos hm]
   refine Tot.ret ⟨hlt,by simp,fun j hj=>?_⟩
   by_cases hji:j=i
   ·subst hji;rw [hg];exact hm
   ·exact hI j (by omega)
  ·rw [if_neg hm]
   refine Tot.ret ?_
   have:ownPlaces xs=false:=List.all_eq_false.2 ⟨i,List.mem_range.2 hlt,by simp only [hg,hm];simp⟩
   simp only [Sum.elim_inr,this]
   rfl
 ·rw [if_neg (by omega)]
  refine Tot.ret ?_
  have:ownPlaces xs=true:=List.all_eq_true.2 fun j hj=>by
   have:=hI j (by have:=List.mem_range.1 hj;omega)
   simpa using this
  simp only [Sum.elim_inr,this]
  rfl
def isHeapB (vars:Int) (h:THeap):Bool:=decide (1≤vars∧vars≤4) && decide ((h.vars.length:Int)=vars) && decide ((h.next.length:Int)≤6) && cellsB h && !cyc h.next && (ownPlaces (ordL h.next h.vars) && decide ((ordL h.next h.vars).length=h.next.length))
theorem spec_isHeap (vars:Int) (h:THeap):spec_IsHeap vars h=some (isHeapB vars h):=by
 unfold spec_IsHeap isHeapB
 rw [l1In_eq]
 simp only [Option.bind_some,cond_dec]
 by_cases h1:1≤vars∧vars≤4
 ·rw [if_pos h1]
  simp only [h1,and_self,decide_true,Bool.true_and,neI,cond_ndec,ltI,cond_dec]
  by_cases h2:(h.vars.length:Int)=vars
  ·rw [if_pos h2]
   simp only [h2,decide_true,Bool.true_and]
   by_cases h3:(h.next.length:Int)≤6
   ·rw [if_neg (by omega)]
    have hv:small h.vars.length:=by unfold small;omega
    have hs:small h.next.length:=by unfold small;omega
    simp only [h3,decide_true,Bool.true_and,l7Cells h hv hs,Option.bind_some]
    cases hc:cellsB h with
    | false=>rfl
    | true =>
     simp only [cond_true,Bool.true_and,spec_acyclic h hs (cells_of hc),Option.bind_some]
     cases hy:cyc h.next with
     | true=>rfl
     | false =>
      simp only [Bool.not_false,cond_true,Bool.true_and,l7Order h hv hs,Option.bind_some]
      have hol:=ordL_len h.next h.vars
      obtain ⟨r,hr1,hr2⟩:=own_loop (ordL h.next h.vars) (by unfold small;omega)
      simp only [neI,ltI,cond_dec,cond_ndec] at hr1
      rw [hr1,hr2]
      cases ho:ownPlaces (ordL h.next h.vars) with
      | false=>simp
      | true=>simp [eqI];omega
   ·rw [if_pos (by omega)]
    simp [h3]
  ·rw [if_neg h2]
   simp [h2]
 ·rw [if_neg h1]
  simp [h1]
theorem impl_isHeap (vars:Int) (h:THeap):impl_IsHeap vars h=some (isHeapB vars h):=by
 unfold impl_IsHeap isHeapB
 rw [within_eq]
 simp only [Option.bind_some,cond_dec]
 by_cases h1:1≤vars∧vars≤4
 ·rw [if_pos h1]
  simp only [h1,and_self,decide_true,Bool.true_and,neI,cond_ndec,ltI,cond_dec]
  by_cases h2:(h.vars.length:Int)=vars
  ·rw [if_pos h2]
   simp only [h2,decide_true,Bool.true_and]
   by_cases h3:(h.next.length:Int)≤6
   ·rw [if_neg (by omega)]
    have hv:small h.vars.length:=by unfold small;omega
    have hs:small h.next.length:=by unfold small;omega
    simp only [h3,decide_true,Bool.true_and,areCells h (by unfold small;simp only [List.length_append];omega) hv hs,Option.bind_some]
    cases hc:cellsB h with
    | false=>rfl
    | true =>
     simp only [cond_true,Bool.true_and,impl_cyclic h hs (cells_of hc),Option.bind_some]
     cases hy:cyc h.next with
     | true=>rfl
     | false =>
      simp only [Bool.not_false,cond_false,Bool.true_and,met h hv hs,Option.bind_some]
      have hol:=ordL_len h.next h.vars
      obtain ⟨r,hr1,hr2⟩:=own_loop (ordL h.next h.vars) (by unfold small;omega)
      simp only [neI,ltI,cond_dec,cond_ndec] at hr1
      rw [hr1,hr2]
      cases ho:ownPlaces (ordL h.next h.vars) with
      | false=>simp
      | true=>simp [eqI];omega
   ·rw [if_pos (by omega)]
    simp [h3]
  ·rw [if_neg h2]
   simp [h2]
 ·rw [if_neg h1]
  simp [h1]

theorem clone_int (xs:List Int) (h:small xs.length):slices_Clone_int xs=some xs:=by
 unfold slices_Clone_int lib_Clone
 rw [room_small h (by omega)]
 rfl
theorem impl_own (h:THeap) (hv:small h.vars.length) (hs:small h.next.length):impl_Heap_own h=some h:=by
 unfold impl_Heap_own
 rw [clone_int _ hv,Option.bind_some,clone_int _ hs]
 rfl
def tiny (h:THeap):Prop:=h.vars.length≤4∧h.next.length≤6
theorem take_snoc1 {α:Type} {xs:List α} {i:Nat} (h:i < xs.length):xs.take (i+1)=xs.take i ++ [xs[i]]:=by simp
theorem Tot.flat {α γ σ:Type} (S:List γ→Int→σ) (lo:Int) (xs:List α) (g:α→List γ) {acc:List γ} {step:σ→Option (σ ⊕ List γ)} {s:σ} {Q:List γ→Prop} (hs:s=S acc lo) (hQ:Q (acc ++ xs.flatMap g))
 (h:∀ (i:Nat) x b,xs[i]?=some x→b.length+(g x).length≤acc.length+(xs.flatMap g).length→Tot (step (S b (lo+i))) (· = .inl (S (b ++ g x) (lo+i+1))))
 (he:∀ b,Tot (step (S b (lo+xs.length))) (· = .inr b)):Tot (iter step s) Q:=by
 subst hs
 exact Tot.of (loop_flat S lo xs g (fun i x b hx hb=>(h i x b hx hb).eq) fun b=>(he b).eq) hQ
def t3 (b:Bool):Int:=if b then 2 else 0
def firstR {ρ υ:Type} (o:Option ρ) (u:υ):ρ ⊕ υ:=match o with | some r=>.inl r | none=>.inr u
theorem Tot.first {ρ υ:Type} {step:Int→Option (Int ⊕ (ρ ⊕ υ))} {Q:ρ ⊕ υ→Prop} (n:Nat) (F:Nat→Option ρ) (u:υ)
 (h:∀ i:Nat,i < n→Tot (step i) (· = (match F i with | none=>.inl ((i:Int)+1) | some r=>.inr (.inl r)))) (he:Tot (step n) (· = .inr (.inr u)))
 (hQ:Q (firstR ((List.range n).findSome? F) u)):Tot (iter step 0) Q:=by
 refine Tot.loop (fun i s=>s=(i:Int)∧∀ j,j < i→F j=none) n ⟨rfl,fun j hj=>absurd hj (Nat.not_lt_zero _)⟩ fun i s hI hi=>?_
 obtain ⟨rfl,hI⟩:=hI
 by_cases hlt:i < n
 ·refine (h i hlt).mono fun o ho=>?_
  subst ho
  cases hF:F i with
  | none =>
   refine ⟨hlt,rfl,fun j hj=>?_⟩
   by_cases hji:j=i
   ·subst hji;exact hF
   ·exact hI j (by omega)
  | some r =>
   have:(List.range n).findSome? F=some r:=by
    rw [List.findSome?_eq_some_iff]
    refine ⟨List.range i,i,(List.range' (i+1) (n - i - 1)),?_,hF,fun j hj=>hI j (List.mem_range.1 hj)⟩
    rw [List.range_eq_range',List.range_eq_range',← List.range'_succ,show n - i - 1+1=n - i by omega]
    have:=@List.range'_append 0 i (n - i) 1
    simp only [Nat.one_mul,Nat.zero_add] at this
    rw [this]
    congr 1
    omega
   rw [this] at hQ
   exact hQ
 ·have:i=n:=by omega
  subst this
  refine he.mono fun o ho=>?_
  subst ho
  have:(List.range i).findSome? F=none:=by
   rw [List.findSome?_eq_none_iff]
   exact fun j hj=>hI j (List.mem_range.1 hj)
  rw [this] at hQ
  exact hQ
theorem findSome_all {ρ:Type} (p:Nat→Bool) (r:ρ):∀ xs:List Nat,xs.findSome? (fun i=>if p i then none else some r)=if xs.all p then none else some r
 | []=>rfl
 | x :: xs=>by
  rw [List.findSome?_cons,findSome_all p r xs]
  cases h:p x <;> simp [h]
theorem Tot.all {ρ υ:Type} {step:Int→Option (Int ⊕ (ρ ⊕ υ))} {Q:ρ ⊕ υ→Prop} (n:Nat) (p:Nat→Bool) (r:ρ) (u:υ)
 (h:∀ i:Nat,i < n→Tot (step i) (· = (if p i then .inl ((i:Int)+1) else .inr (.inl r)))) (he:Tot (step n) (· = .inr (.inr u)))
 (hQ:Q (if (List.range n).all p then .inr u else .inl r)):Tot (iter step 0) Q:=by
 refine Tot.first n (fun i=>if p i then none else some r) u (fun i hi=>?_) he ?_
 ·refine (h i hi).mono fun o ho=>?_
  rw [ho]
  cases p i <;> rfl
 ·rw [findSome_all]
  cases h:(List.range n).all p <;> simpa [h,firstR] using hQ

theorem getD_at {α:Type} {xs:List α} {i:Nat} (h:i < xs.length) (d:α):at? xs (i:Int)=some (xs.getD i d):=by
 rw [at_nat,List.getElem?_eq_getElem h];simp [List.getD,h]
theorem at_in' {α:Type} {xs:List α} {c:Int} (h:0≤c∧c < (xs.length:Int)) (d:α):at? xs c=some (xs.getD c.toNat d):=by
 unfold at?
 rw [if_pos h.1]
 have:c.toNat < xs.length:=by omega
 simp [List.getD,List.getElem?_eq_getElem this]

end Go.Ev


namespace Go.Ev
open Wf (wf)
open Sm (sm lg)
theorem szStringS_ok {a:(List ByteArray)} {left:Int} (hw:wf a) (hl:0≤left∧left≤1048576):SzOK (laws_szStringS a left) (sm a):=by
 refine szRow (fun x l=>some (subI l (x.size:Int))) hl (wf_list hw).1 (fun x hx l hl=>?_) (fun i x l n hi hx hn=>?_) (fun l=>?_) (by unfold laws_szStringS;rfl)
 ·have:=wf_str ((wf_list hw).2 x hx)
  rw [subI_eq (by omega) (by omega)]
  exact ⟨_,rfl,by omega,fun h=>by show x.size≤1048576;omega,by omega⟩
 ·cases hn
  simp only [zaq,at_nat,hx,Int.ofNat_lt,hi,if_true,Option.bind_some]
  split <;> rfl
 ·simp [zaq]
theorem szStmt_ok {a:TStmt} {left:Int} (hw:wf a) (hl:0≤left∧left≤1048576):SzOK (laws_szStmt a left) (sm a):=by
 unfold laws_szStmt
 have h1:=wf_str hw.2.1
 have h2:=wf_str hw.2.2
 rw [subI_eq (a:=left) (by omega) (by omega),zaq]
 by_cases h:left - (a.a.size:Int) < 0
 ·rw [if_pos h];exact ⟨-1,rfl,by omega,by omega,by omega⟩
 ·rw [if_neg h,subI_eq (by omega) (by omega),zaq]
  by_cases h3:left - (a.a.size:Int) - (a.b.size:Int) < 0
  ·rw [if_pos h3];exact ⟨-1,rfl,by omega,by omega,by omega⟩
  ·rw [if_neg h3]
   exact ⟨_,rfl,by omega,fun _=>⟨by show a.a.size≤1048576;omega,by show a.b.size≤1048576;omega⟩,by omega⟩
theorem szEdge_ok {a:TEdge} {left:Int} (hw:wf a) (hl:0≤left∧left≤1048576):SzOK (laws_szEdge a left) (sm a):=(szStmt_ok hw.2.2 hl).last
theorem szEdgeS_ok {a:(List TEdge)} {left:Int} (hw:wf a) (hl:0≤left∧left≤1048576):SzOK (laws_szEdgeS a left) (sm a):=by
 refine szRow laws_szEdge hl (wf_list hw).1 (fun x hx l hl=>szEdge_ok ((wf_list hw).2 x hx) hl) (fun i x l n hi hx hn=>?_) (fun l=>?_) (by unfold laws_szEdgeS;rfl)
 ·simp only [zaq,at_nat,hx,hn,Int.ofNat_lt,hi,if_true,Option.bind_some]
  split <;> rfl
 ·simp [zaq]
theorem szProgram_ok {a:TProgram} {left:Int} (hw:wf a) (hl:0≤left∧left≤1048576):SzOK (laws_szProgram a left) (sm a):=(szStringS_ok hw.1 hl).two fun n0 hn0=>(szEdgeS_ok hw.2.2 hn0).last
theorem szIntS_ok {a:(List Int)} {left:Int} (hw:wf a) (hl:0≤left∧left≤1048576):SzOK (laws_szIntS a left) (sm a):=by
 unfold laws_szIntS
 have h:=(wf_list hw).1
 rw [subI_eq (by omega) (by omega),zaq]
 by_cases h:left - (a.length:Int) < 0
 ·rw [if_pos h];exact ⟨-1,rfl,by omega,by omega,by omega⟩
 ·rw [if_neg h];exact ⟨_,rfl,by omega,fun _=>⟨by omega,fun _ _=>trivial⟩,by omega⟩
theorem szHeap_ok {a:THeap} {left:Int} (hw:wf a) (hl:0≤left∧left≤1048576):SzOK (laws_szHeap a left) (sm a):=(szIntS_ok hw.1 hl).two fun n0 hn0=>(szIntS_ok hw.2 hn0).last
theorem szHeapS_ok {a:(List THeap)} {left:Int} (hw:wf a) (hl:0≤left∧left≤1048576):SzOK (laws_szHeapS a left) (sm a):=by
 refine szRow laws_szHeap hl (wf_list hw).1 (fun x hx l hl=>szHeap_ok ((wf_list hw).2 x hx) hl) (fun i x l n hi hx hn=>?_) (fun l=>?_) (by unfold laws_szHeapS;rfl)
 ·simp only [zaq,at_nat,hx,hn,Int.ofNat_lt,hi,if_true,Option.bind_some]
  split <;> rfl
 ·simp [zaq]
theorem toStringS_ok {a:(List ByteArray)} (h:sm a):laws_toStringS a=some a:=by
 refine toRow (fun x=>some x) (mapM_self (fun _ _=>rfl)) (sm_len h) (b:=16) (by omega) (fun i x y o hi hx hy ho=>?_) (fun o=>?_) (by unfold laws_toStringS;rfl)
 ·obtain ⟨q,hq⟩:=ho
  cases hy
  simp only [zaq,at_nat,hx,hq,Int.ofNat_lt,hi,if_true,Option.bind_some,Int.toNat_natCast]
 ·simp [zaq]
theorem toStmt_ok {a:TStmt} (h:sm a):laws_toStmt a=some a:=by
 unfold laws_toStmt
 rfl
theorem toEdge_ok {a:TEdge} (h:sm a):laws_toEdge a=some a:=by
 unfold laws_toEdge
 rw [toStmt_ok h]
 rfl
theorem toEdgeS_ok {a:(List TEdge)} (h:sm a):laws_toEdgeS a=some a:=by
 refine toRow (laws_toEdge) (mapM_self (fun x hx=>toEdge_ok (h.2 x hx))) (sm_len h) (b:=56) (by omega) (fun i x y o hi hx hy ho=>?_) (fun o=>?_) (by unfold laws_toEdgeS;rfl)
 ·obtain ⟨q,hq⟩:=ho
  simp only [zaq,at_nat,hx,hq,hy,Int.ofNat_lt,hi,if_true,Option.bind_some,Int.toNat_natCast]
 ·simp [zaq]
theorem toProgram_ok {a:TProgram} (h:sm a):laws_toProgram a=some a:=by
 unfold laws_toProgram
 rw [toStringS_ok h.1,toEdgeS_ok h.2]
 rfl
theorem toIntS_ok {a:(List Int)} (h:sm a):laws_toIntS a=some a:=by
 refine toRow (fun x=>some x) (mapM_self (fun _ _=>rfl)) (sm_len h) (b:=8) (by omega) (fun i x y o hi hx hy ho=>?_) (fun o=>?_) (by unfold laws_toIntS;rfl)
 ·obtain ⟨q,hq⟩:=ho
  cases hy
  simp only [zaq,at_nat,hx,hq,Int.ofNat_lt,hi,if_true,Option.bind_some,Int.toNat_natCast]
 ·simp [zaq]
theorem toHeap_ok {a:THeap} (h:sm a):laws_toHeap a=some a:=by
 unfold laws_toHeap
 rw [toIntS_ok h.1,toIntS_ok h.2]
 rfl
theorem toHeapS_ok {a:(List THeap)} (h:sm a):laws_toHeapS a=some a:=by
 refine toRow (laws_toHeap) (mapM_self (fun x hx=>toHeap_ok (h.2 x hx))) (sm_len h) (b:=48) (by omega) (fun i x y o hi hx hy ho=>?_) (fun o=>?_) (by unfold laws_toHeapS;rfl)
 ·obtain ⟨q,hq⟩:=ho
  simp only [zaq,at_nat,hx,hq,hy,Int.ofNat_lt,hi,if_true,Option.bind_some,Int.toNat_natCast]
 ·simp [zaq]
theorem eqIntS_ok {a b:(List Int)} (h:lg a):laws_eqIntS a b=some (decide (a=b)):=by
 refine eqRow (lg_le h) (fun i x y hi hx hy=>?_) ?_ (by unfold laws_eqIntS;rfl)
 ·simp only [zaq,cond_ne,at_nat,hx,hy,Option.bind_some,Int.ofNat_lt,hi,if_true]
  by_cases he:x=y <;> simp [he]
 ·simp [zaq]
theorem eqHeap_ok {a b:THeap} (h:lg a):laws_eqHeap a b=some (decide (a=b)):=by
 unfold laws_eqHeap
 rw [eqIntS_ok h.1,eqIntS_ok h.2]
 rcases a with ⟨a0,a1⟩
 rcases b with ⟨b0,b1⟩
 simp only [Option.bind_some,cond_dec,cond_ne,neS_dec,cond_ndec,THeap.mk.injEq]
 by_cases h0:a0=b0 <;> by_cases h1:a1=b1 <;> simp [h0,h1]
theorem eqFailure_ok {a b:TFailure} (h:lg a):laws_eqFailure a b=some (decide (a=b)):=by
 unfold laws_eqFailure
 rw [eqHeap_ok h.1,eqIntS_ok h.2]
 rcases a with ⟨a0,a1,a2⟩
 rcases b with ⟨b0,b1,b2⟩
 simp only [Option.bind_some,cond_dec,cond_ne,neS_dec,cond_ndec,TFailure.mk.injEq]
 by_cases h0:a0=b0 <;> by_cases h1:a1=b1 <;> by_cases h2:a2=b2 <;> simp [h0,h1,h2]
theorem eqStringS_ok {a b:(List ByteArray)} (h:lg a):laws_eqStringS a b=some (decide (a=b)):=by
 refine eqRow (lg_le h) (fun i x y hi hx hy=>?_) ?_ (by unfold laws_eqStringS;rfl)
 ·simp only [zaq,neS_dec,cond_ndec,at_nat,hx,hy,Option.bind_some,Int.ofNat_lt,hi,if_true]
  by_cases he:x=y <;> simp [he]
 ·simp [zaq]
theorem eqStmt_ok {a b:TStmt} (h:lg a):laws_eqStmt a b=some (decide (a=b)):=by
 unfold laws_eqStmt
 rcases a with ⟨a0,a1,a2⟩
 rcases b with ⟨b0,b1,b2⟩
 simp only [Option.bind_some,cond_dec,cond_ne,neS_dec,cond_ndec,TStmt.mk.injEq]
 by_cases h0:a0=b0 <;> by_cases h1:a1=b1 <;> by_cases h2:a2=b2 <;> simp [h0,h1,h2]
theorem eqEdge_ok {a b:TEdge} (h:lg a):laws_eqEdge a b=some (decide (a=b)):=by
 unfold laws_eqEdge
 rw [eqStmt_ok h]
 rcases a with ⟨a0,a1,a2⟩
 rcases b with ⟨b0,b1,b2⟩
 simp only [Option.bind_some,cond_dec,cond_ne,neS_dec,cond_ndec,TEdge.mk.injEq]
 by_cases h0:a0=b0 <;> by_cases h1:a1=b1 <;> by_cases h2:a2=b2 <;> simp [h0,h1,h2]
theorem eqEdgeS_ok {a b:(List TEdge)} (h:lg a):laws_eqEdgeS a b=some (decide (a=b)):=by
 refine eqRow (lg_le h) (fun i x y hi hx hy=>?_) ?_ (by unfold laws_eqEdgeS;rfl)
 ·simp only [zaq,eqEdge_ok (lg_mem h hx),cond_dec,at_nat,hx,hy,Option.bind_some,Int.ofNat_lt,hi,if_true]
  by_cases he:x=y <;> simp [he]
 ·simp [zaq]
theorem eqProgram_ok {a b:TProgram} (h:lg a):laws_eqProgram a b=some (decide (a=b)):=by
 unfold laws_eqProgram
 rw [eqStringS_ok h.1,eqEdgeS_ok h.2]
 rcases a with ⟨a0,a1,a2⟩
 rcases b with ⟨b0,b1,b2⟩
 simp only [Option.bind_some,cond_dec,cond_ne,neS_dec,cond_ndec,TProgram.mk.injEq]
 by_cases h0:a0=b0 <;> by_cases h1:a1=b1 <;> by_cases h2:a2=b2 <;> simp [h0,h1,h2]
theorem eqHeapS_ok {a b:(List THeap)} (h:lg a):laws_eqHeapS a b=some (decide (a=b)):=by
 refine eqRow (lg_le h) (fun i x y hi hx hy=>?_) ?_ (by unfold laws_eqHeapS;rfl)
 ·simp only [zaq,eqHeap_ok (lg_mem h hx),cond_dec,at_nat,hx,hy,Option.bind_some,Int.ofNat_lt,hi,if_true]
  by_cases he:x=y <;> simp [he]
 ·simp [zaq]
end Go.Ev


namespace Go.Ev
theorem Tot.some {ρ:Type} {step:Int→Option (Int ⊕ ρ)} (n:Nat) (h:∀ i:Nat,i < n→Tot (step i) (fun o=>o=.inl ((i:Int)+1)∨∃ r,o=.inr r)) (he:Tot (step n) (fun o=>∃ r,o=.inr r)):∃ r,iter step 0=.some r:=by
 have:Tot (iter step 0) (fun _=>True):=by
  refine Tot.loop (fun i s=>s=(i:Int)) n rfl fun i s hI hi=>?_
  subst hI
  by_cases hlt:i < n
  ·refine (h i hlt).mono fun o ho=>?_
   rcases ho with rfl | ⟨r,rfl⟩
   ·exact ⟨hlt,rfl⟩
   ·trivial
  ·obtain rfl:i=n:=by omega
   refine he.mono fun o ho=>?_
   obtain ⟨r,rfl⟩:=ho
   trivial
 obtain ⟨r,hr,_⟩:=this
 exact ⟨r,hr⟩

theorem within_l1:impl_within=spec_l1In:=by funext n lo hi;rw [within_eq,l1In_eq]
theorem isName_eq:impl_IsName=spec_IsName:=by
 funext s
 unfold impl_IsName spec_IsName
 rw [within_l1]
theorem chr_at {s:ByteArray} {i:Nat} (h:i < s.size):∃ c,chr? s (i:Int)=some c:=by
 unfold chr?
 rw [if_pos (by omega)]
 exact ⟨_,by rw [Int.toNat_natCast,getElem?_pos s i h];rfl⟩
theorem isName_tot (s:ByteArray) (hs:small s.size):∃ b,spec_IsName s=some b:=by
 unfold small at hs
 unfold spec_IsName
 obtain ⟨r,hr⟩:=Tot.some (ρ:=Unit ⊕ Unit) (step:=fun s_1:Int =>
  cond (ltI s_1 (s.size:Int))
   ((chr? s s_1).bind fun e_10 =>
    cond (ltI e_10 97)
     (some (.inr (.inl ())))
     ((chr? s s_1).bind fun _ =>
      cond (ltI 122 e_10)
       (some (.inr (.inl ())))
       (some (.inl (addI s_1 1)))))
   (some (.inr (.inr ())))) s.size (fun i hi=>by
  obtain ⟨c,hc⟩:=chr_at hi
  simp only [zaq,hc,Option.bind_some]
  rw [if_pos (by omega),addI_eq (by omega) (by omega)]
  by_cases h1:c < 97
  ·rw [if_pos h1];exact Tot.ret (.inr ⟨_,rfl⟩)
  ·rw [if_neg h1]
   by_cases h2:122 < c
   ·rw [if_pos h2];exact Tot.ret (.inr ⟨_,rfl⟩)
   ·rw [if_neg h2];exact Tot.ret (.inl rfl)) (by
  simp only [zaq]
  rw [if_neg (by omega)]
  exact Tot.ret ⟨_,rfl⟩)
 rw [hr,Option.bind_some]
 rcases r with r | r
 ·exact ⟨_,rfl⟩
 ·simp only [Sum.elim_inr,l1In_eq,Option.bind_some]
  exact ⟨_,rfl⟩
def nameB (s:ByteArray):Bool:=(spec_IsName s).getD false
theorem spec_isName (s:ByteArray) (hs:small s.size):spec_IsName s=some (nameB s):=by
 obtain ⟨b,hb⟩:=isName_tot s hs
 rw [nameB,hb];rfl

def idxS (vars:List ByteArray) (s:ByteArray):Int:=match vars.findIdx? (fun x=>decide (s=x)) with | some j=>(j:Int) | none=>-1
theorem idxS_in (vars:List ByteArray) (s:ByteArray):-1≤idxS vars s∧idxS vars s < (vars.length:Int):=by
 unfold idxS
 cases h:vars.findIdx? (fun x=>decide (s=x)) with
 | none=>simp only;omega
 | some j =>
  rw [List.findIdx?_eq_some_iff_getElem] at h
  obtain ⟨hj,_⟩:=h
  simp only
  omega
theorem index_str (xs:List ByteArray) (v:ByteArray) (hl:small xs.length):slices_Index_string xs v=some (idxS xs v):=by
 unfold slices_Index_string idxS
 rw [iter_list xs (fun (_:Unit) i=>i) (fun _ i x=>if decide (v=x)=true then some (.inr (.inl (i:Int))) else some (.inl ())) (fun _=>some (.inr ())) (fun b i x hx=>?_) (fun b=>?_) (),findE]
 ·cases xs.findIdx? (fun x=>decide (v=x)) with
  | none=>rfl
  | some j=>simp
 ·have hlt:=(List.getElem?_eq_some_iff.1 hx).1
  unfold small at hl
  rw [at_nat,hx,addI_eq (by omega) (by omega)]
  simp only [ltI,eqS_dec,cond_dec,Option.bind_some]
  rw [if_pos (by omega)]
  by_cases h:v=x <;> simp [h]
 ·simp [ltI]
theorem spec_indexOf (xs:List ByteArray) (v:ByteArray) (hl:small xs.length):spec_IndexOf xs v=some (idxS xs v):=by
 rw [← index_str xs v hl]
 unfold spec_IndexOf slices_Index_string
 simp only [eqS_dec]
 congr 2
 funext s
 congr 2
 funext e
 rw [show decide (e=v)=decide (v=e) from decide_eq_decide.2 ⟨Eq.symm,Eq.symm⟩]
theorem impl_indexOf (xs:List ByteArray) (v:ByteArray) (hl:small xs.length):impl_IndexOf xs v=some (idxS xs v):=by
 unfold impl_IndexOf
 rw [index_str xs v hl]
 rfl
theorem contains_str (xs:List ByteArray) (v:ByteArray) (hl:small xs.length):slices_Contains_string xs v=some (decide (0≤idxS xs v)):=by
 unfold slices_Contains_string
 rw [index_str xs v hl]
 rfl

def smN (vars:List ByteArray):Prop:=small vars.length∧∀ s∈vars,small s.size
def avB (vars:List ByteArray):Bool:=(List.range vars.length).all (fun i=>nameB (vars.getD i ByteArray.empty) && decide (idxS vars (vars.getD i ByteArray.empty)=(i:Int))) && decide (1≤(vars.length:Int)∧(vars.length:Int)≤4)
theorem spec_areVars (vars:List ByteArray) (h:smN vars):spec_AreVars vars=some (avB vars):=by
 obtain ⟨h1,h2⟩:=h
 have hn:=h1
 unfold small at h1
 unfold spec_AreVars avB
 refine Tot.eq (Tot.bind (P:=(· = if (List.range vars.length).all (fun i=>nameB (vars.getD i ByteArray.empty) && decide (idxS vars (vars.getD i ByteArray.empty)=(i:Int))) then .inr () else .inl ())) (Tot.all vars.length (fun i=>nameB (vars.getD i ByteArray.empty) && decide (idxS vars (vars.getD i ByteArray.empty)=(i:Int))) () () (fun i hi=>?_) ?_ (by simp)) fun r hr=>?_)
 ·have hm:vars.getD i ByteArray.empty∈vars:=by simp [List.getD,hi]
  simp only [zaq,getD_at hi ByteArray.empty,Option.bind_some,spec_isName _ (h2 _ hm),spec_indexOf vars _ hn,cond_ne]
  rw [if_pos (by omega),addI_eq (by omega) (by omega)]
  cases nameB (vars.getD i ByteArray.empty)
  ·exact Tot.ret rfl
  ·by_cases h:idxS vars (vars.getD i ByteArray.empty)=(i:Int)
   ·simp only [h,cond_true,if_true,decide_true,Bool.and_true];exact Tot.ret rfl
   ·simp only [h,cond_true,if_false,decide_false,Bool.and_false];exact Tot.ret rfl
 ·simp only [zaq]
  rw [if_neg (by omega)]
  exact Tot.ret rfl
 ·subst hr
  simp only [l1In_eq]
  cases (List.range vars.length).all (fun i=>nameB (vars.getD i ByteArray.empty) && decide (idxS vars (vars.getD i ByteArray.empty)=(i:Int)))
  ·exact Tot.ret rfl
  ·exact Tot.ret rfl
theorem impl_areVars (vars:List ByteArray) (h:smN vars):impl_AreVars vars=some (avB vars):=by
 obtain ⟨h1,h2⟩:=h
 have hn:=h1
 unfold small at h1
 unfold impl_AreVars avB
 refine Tot.eq (Tot.bind (P:=(· = if (List.range vars.length).all (fun i=>nameB (vars.getD i ByteArray.empty) && decide (idxS vars (vars.getD i ByteArray.empty)=(i:Int))) then .inr () else .inl ())) (Tot.all vars.length (fun i=>nameB (vars.getD i ByteArray.empty) && decide (idxS vars (vars.getD i ByteArray.empty)=(i:Int))) () () (fun i hi=>?_) ?_ (by simp)) fun r hr=>?_)
 ·have hm:vars.getD i ByteArray.empty∈vars:=by simp [List.getD,hi]
  simp only [zaq,getD_at hi ByteArray.empty,Option.bind_some,isName_eq,spec_isName _ (h2 _ hm),impl_indexOf vars _ hn,cond_ne]
  rw [if_pos (by omega),addI_eq (by omega) (by omega)]
  cases nameB (vars.getD i ByteArray.empty)
  ·exact Tot.ret rfl
  ·by_cases h:idxS vars (vars.getD i ByteArray.empty)=(i:Int)
   ·simp only [h,cond_true,if_true,decide_true,Bool.and_true];exact Tot.ret rfl
   ·simp only [h,cond_true,if_false,decide_false,Bool.and_false];exact Tot.ret rfl
 ·simp only [zaq]
  rw [if_neg (by omega)]
  exact Tot.ret rfl
 ·subst hr
  simp only [within_eq]
  cases (List.range vars.length).all (fun i=>nameB (vars.getD i ByteArray.empty) && decide (idxS vars (vars.getD i ByteArray.empty)=(i:Int)))
  ·exact Tot.ret rfl
  ·exact Tot.ret rfl

def nk (k:Int):Int:=if k=1 then 0 else if k=2∨k=3∨k=6∨k=8∨k=9∨k=10 then 1 else if k=4∨k=5∨k=7∨k=11∨k=12 then 2 else -1
theorem kinds {k:Int} (h:1≤k∧k≤12):k=1∨k=2∨k=3∨k=4∨k=5∨k=6∨k=7∨k=8∨k=9∨k=10∨k=11∨k=12:=by omega
theorem spec_namesOf (k:Int):spec_NamesOf k=some (nk k):=by
 by_cases h:1≤k∧k≤12
 ·rcases kinds h with rfl | rfl | rfl | rfl | rfl | rfl | rfl | rfl | rfl | rfl | rfl | rfl <;> rfl
 ·unfold spec_NamesOf nk
  simp only [cond_eq]
  rw [if_neg (by omega),if_neg (by omega),if_neg (by omega),if_neg (by omega),if_neg (by omega),if_neg (by omega),if_neg (by omega),if_neg (by omega),if_neg (by omega),if_neg (by omega),if_neg (by omega),if_neg (by omega),if_neg (by omega),if_neg (by omega),if_neg (by omega)]
theorem impl_namesOf (k:Int):impl_NamesOf k=some (nk k):=by
 unfold impl_NamesOf
 rw [within_eq]
 by_cases h:1≤k∧k≤12
 ·simp only [h,and_self,decide_true,Option.bind_some,cond_true]
  rcases kinds h with rfl | rfl | rfl | rfl | rfl | rfl | rfl | rfl | rfl | rfl | rfl | rfl <;> rfl
 ·simp only [h,decide_false,Option.bind_some,cond_false]
  unfold nk
  rw [if_neg (by omega),if_neg (by omega),if_neg (by omega)]
end Go.Ev


namespace Go.Ev
def stB (vars:List ByteArray) (s:TStmt):Bool :=
 avB vars && (decide (0≤nk s.kind) && ((if nk s.kind < 1 then decide (s.a=⟨#[]⟩) else decide (0≤idxS vars s.a)) && (if nk s.kind < 2 then decide (s.b=⟨#[]⟩) else decide (0≤idxS vars s.b))))
theorem nk_rng (k:Int):nk k = -1∨nk k=0∨nk k=1∨nk k=2:=by
 unfold nk
 split
 ·simp
 ·split
  ·simp
  ·split <;> simp
theorem spec_isStmt (vars:List ByteArray) (s:TStmt) (h:smN vars):spec_IsStmt vars s=some (stB vars s):=by
 unfold spec_IsStmt stB
 simp only [spec_namesOf,Option.bind_some,spec_areVars vars h,zaq,cond_le,spec_indexOf vars _ h.1,neS_dec,cond_ndec]
 cases avB vars
 ·rfl
 ·simp only [cond_true,Bool.true_and]
  rcases nk_rng s.kind with h0 | h0 | h0 | h0 <;> rw [h0]
  ·rfl
  ·simp
   by_cases h1:s.a=⟨#[]⟩ <;> by_cases h2:s.b=⟨#[]⟩ <;> simp [h1,h2]
  ·simp
   by_cases h1:0≤idxS vars s.a <;> by_cases h2:s.b=⟨#[]⟩ <;> simp [h1,h2]
  ·simp
   by_cases h1:0≤idxS vars s.a <;> simp [h1,leI]
theorem impl_isStmt (vars:List ByteArray) (s:TStmt) (h:smN vars):impl_IsStmt vars s=some (stB vars s):=by
 unfold impl_IsStmt stB
 rw [impl_areVars vars h,Option.bind_some]
 cases avB vars
 ·rfl
 ·simp only [cond_true,Bool.true_and]
  have hn:impl_Stmt_hasNames s (fun x0=>impl_IsStmt_1 x0 vars)=some (decide (0≤nk s.kind) && ((if nk s.kind < 1 then decide (s.a=⟨#[]⟩) else decide (0≤idxS vars s.a)) && (if nk s.kind < 2 then decide (s.b=⟨#[]⟩) else decide (0≤idxS vars s.b)))):=by
   unfold impl_Stmt_hasNames impl_IsStmt_1
   simp only [impl_namesOf,Option.bind_some,contains_str vars _ h.1]
   rcases nk_rng s.kind with h0 | h0 | h0 | h0 <;> rw [h0]
   ·by_cases h1:s.a=⟨#[]⟩
    ·by_cases h2:s.b=⟨#[]⟩
     ·rw [iter_inl (s':=1) (by simp [ltI,leI,at?,neS_dec,h1];rfl),iter_inl (s':=2) (by simp [ltI,leI,at?,neS_dec,h2];rfl),iter_inr (r:=.inr ()) (by simp [ltI])]
      simp [leI]
     ·rw [iter_inl (s':=1) (by simp [ltI,leI,at?,neS_dec,h1];rfl),iter_inr (r:=.inl ()) (by simp [ltI,leI,at?,neS_dec,h2])]
      simp
    ·rw [iter_inr (r:=.inl ()) (by simp [ltI,leI,at?,neS_dec,h1])]
     simp
   ·by_cases h1:s.a=⟨#[]⟩
    ·by_cases h2:s.b=⟨#[]⟩
     ·rw [iter_inl (s':=1) (by simp [ltI,leI,at?,neS_dec,h1];rfl),iter_inl (s':=2) (by simp [ltI,leI,at?,neS_dec,h2];rfl),iter_inr (r:=.inr ()) (by simp [ltI])]
      simp [leI,h1,h2]
     ·rw [iter_inl (s':=1) (by simp [ltI,leI,at?,neS_dec,h1];rfl),iter_inr (r:=.inl ()) (by simp [ltI,leI,at?,neS_dec,h2])]
      simp [h2]
    ·rw [iter_inr (r:=.inl ()) (by simp [ltI,leI,at?,neS_dec,h1])]
     simp [h1]
   ·by_cases h1:0≤idxS vars s.a
    ·by_cases h2:s.b=⟨#[]⟩
     ·rw [iter_inl (s':=1) (by simp [ltI,leI,at?,neS_dec,h1];rfl),iter_inl (s':=2) (by simp [ltI,leI,at?,neS_dec,h2];rfl),iter_inr (r:=.inr ()) (by simp [ltI])]
      simp [leI,h1,h2]
     ·rw [iter_inl (s':=1) (by simp [ltI,leI,at?,neS_dec,h1];rfl),iter_inr (r:=.inl ()) (by simp [ltI,leI,at?,neS_dec,h2])]
      simp [h2]
    ·rw [iter_inr (r:=.inl ()) (by simp [ltI,leI,at?,neS_dec,h1])]
     simp [h1]
   ·by_cases h1:0≤idxS vars s.a
    ·by_cases h2:0≤idxS vars s.b
     ·rw [iter_inl (s':=1) (by simp [ltI,leI,at?,neS_dec,h1];rfl),iter_inl (s':=2) (by simp [ltI,leI,at?,neS_dec,h2];rfl),iter_inr (r:=.inr ()) (by simp [ltI])]
      simp [leI,h1,h2]
     ·rw [iter_inl (s':=1) (by simp [ltI,leI,at?,neS_dec,h1];rfl),iter_inr (r:=.inl ()) (by simp [ltI,leI,at?,neS_dec,h2])]
      simp [h2]
    ·rw [iter_inr (r:=.inl ()) (by simp [ltI,leI,at?,neS_dec,h1])]
     simp [h1]
  rw [hn,Option.bind_some]

def zE:TEdge:=⟨0,0,⟨0,⟨#[]⟩,⟨#[]⟩⟩⟩
def edB (p:TProgram) (e:TEdge):Bool:=decide (0≤e.from_∧e.from_≤subI p.points 1) && (decide (0≤e.to_∧e.to_≤subI p.points 1) && stB p.vars e.stmt)
def prB (p:TProgram):Bool:=avB p.vars && (decide (1≤p.points∧p.points≤12) && (decide ((p.edges.length:Int)≤24) && p.edges.all (edB p)))
def smP (p:TProgram):Prop:=smN p.vars∧small p.edges.length
theorem spec_isProgram (p:TProgram) (h:smP p):spec_IsProgram p=some (prB p):=by
 obtain ⟨h1,h2⟩:=h
 unfold small at h2
 have hall:(List.range p.edges.length).all (fun i=>edB p (p.edges.getD i zE))=p.edges.all (edB p):=by
  rw [Bool.eq_iff_iff,List.all_eq_true,List.all_eq_true]
  constructor
  ·intro h e he
   obtain ⟨i,hi,rfl⟩:=List.getElem_of_mem he
   have:=h i (List.mem_range.2 hi)
   simpa [List.getD,hi] using this
  ·intro h i hi
   have hi:=List.mem_range.1 hi
   have:=h p.edges[i] (List.getElem_mem hi)
   simpa [List.getD,hi] using this
 unfold spec_IsProgram prB
 refine Tot.eq (Tot.bind (P:=(· = if (List.range p.edges.length).all (fun i=>edB p (p.edges.getD i zE)) then .inr () else .inl ())) (Tot.all p.edges.length (fun i=>edB p (p.edges.getD i zE)) () () (fun i hi=>?_) ?_ (by simp)) fun r hr=>?_)
 ·simp only [zaq,getD_at hi zE,Option.bind_some,l1In_eq,cond_dec,spec_isStmt _ _ h1]
  rw [if_pos (by omega),addI_eq (by omega) (by omega)]
  unfold edB
  by_cases q1:0≤(p.edges.getD i zE).from_∧(p.edges.getD i zE).from_≤subI p.points 1
  ·by_cases q2:0≤(p.edges.getD i zE).to_∧(p.edges.getD i zE).to_≤subI p.points 1
   ·rw [if_pos q1,if_pos q2]
    cases q3:stB p.vars (p.edges.getD i zE).stmt
    ·simp only [q1,q2,q3,and_self,decide_true,Bool.true_and];exact Tot.ret rfl
    ·simp only [q1,q2,q3,and_self,decide_true,Bool.true_and];exact Tot.ret rfl
   ·rw [if_pos q1,if_neg q2]
    simp only [q2,decide_false,Bool.false_and,Bool.and_false];exact Tot.ret rfl
  ·rw [if_neg q1]
   simp only [q1,decide_false,Bool.false_and];exact Tot.ret rfl
 ·simp only [zaq]
  rw [if_neg (by omega)]
  exact Tot.ret rfl
 ·subst hr
  rw [hall,spec_areVars _ h1]
  simp only [l1In_eq]
  cases p.edges.all (edB p)
  ·exact Tot.ret (by simp)
  ·cases avB p.vars
   ·exact Tot.ret rfl
   ·simp only [Sum.elim_inr,Option.bind_some,cond_true,cond_dec,if_true]
    split
    ·rename_i h;simp only [h,and_self,decide_true,leI];exact Tot.ret (by simp)
    ·rename_i h;simp only [h,decide_false];exact Tot.ret rfl
theorem impl_isProgram (p:TProgram) (h:smP p):impl_IsProgram p=some (prB p):=by
 obtain ⟨h1,h2⟩:=h
 have h2':=h2
 unfold small at h2'
 have hf:∀ x∈p.edges,(fun x0=>impl_IsProgram_1 x0 p) x=some (!edB p x):=fun e _=>by
  simp only [impl_IsProgram_1,within_eq,Option.bind_some,cond_dec,impl_isStmt _ _ h1]
  unfold edB
  by_cases q1:0≤e.from_∧e.from_≤subI p.points 1
  ·by_cases q2:0≤e.to_∧e.to_≤subI p.points 1
   ·rw [if_pos q1,if_pos q2]
    simp [q1,q2,notB]
   ·rw [if_pos q1,if_neg q2]
    simp [q2]
  ·rw [if_neg q1]
   simp [q1]
 have hany:slices_ContainsFunc_Edge p.edges (fun x0=>impl_IsProgram_1 x0 p)=some (p.edges.any (fun x=>!edB p x)):=by
  unfold slices_ContainsFunc_Edge slices_IndexFunc_Edge
  rw [indexF p.edges _ (fun x=>!edB p x) hf h2,← containsF_of]
  cases p.edges.findIdx? (fun x=>!edB p x) <;> rfl
 unfold impl_IsProgram prB
 simp only [impl_areVars _ h1,Option.bind_some,within_eq,zaq,hany]
 cases avB p.vars
 ·rfl
 ·simp only [cond_true,cond_dec,Bool.true_and]
  by_cases h:1≤p.points∧p.points≤12
  ·rw [if_pos h]
   simp only [h,and_self,decide_true,Bool.true_and]
   by_cases h3:24 < (p.edges.length:Int)
   ·rw [if_pos h3]
    simp;omega
   ·rw [if_neg h3]
    have:(p.edges.length:Int)≤24:=by omega
    simp only [this,decide_true,Bool.true_and,notB,Option.some.injEq]
    rw [List.any_eq_not_all_not]
    simp
  ·rw [if_neg h]
   simp [h]
end Go.Ev


namespace Go.Ev
def okH (h:THeap):Prop:=h.vars.length≤100∧h.next.length≤100
theorem okH.v {h:THeap} (o:okH h):small h.vars.length:=by have:=o.1;unfold small;omega
theorem okH.n {h:THeap} (o:okH h):small h.next.length:=by have:=o.2;unfold small;omega
theorem okH.vn {h:THeap} (o:okH h):small (h.vars ++ h.next).length:=by have:=o.1;have:=o.2;unfold small;simp;omega
def lkB (h:THeap):Bool:=decide ((ordL h.next h.vars).length < h.next.length)
theorem spec_hasLeak (h:THeap) (o:okH h):spec_HasLeak h=some (lkB h):=by
 unfold spec_HasLeak lkB
 rw [l7Order h o.v o.n]
 simp [ltI]
theorem impl_hasLeak (h:THeap) (o:okH h):impl_HasLeak h=some (lkB h):=by
 unfold impl_HasLeak lkB
 rw [met h o.v o.n]
 simp [ltI]

def ixI (xs:List Int) (v:Int):Int:=match xs.findIdx? (fun x=>decide (v=x)) with | some j=>(j:Int) | none=>-1
theorem posF_head (v:Int):∀ (xs:List Int) (i:Nat),(posF v i xs).head?=(xs.findIdx? (fun x=>decide (v=x))).map fun j=>((i+j:Nat):Int)
 | [],i=>rfl
 | x :: xs,i=>by
  rw [posF,List.findIdx?_cons]
  by_cases h:v=x
  ·subst h
   simp
  ·have h':¬ x=v:=fun e=>h e.symm
   simp only [h,h',if_false,decide_false,Bool.false_eq_true]
   rw [posF_head v xs (i+1)]
   cases xs.findIdx? (fun x=>decide (v=x)) with
   | none=>rfl
   | some j=>simp;omega
theorem spec_new (xs:List Int) (v:Int) (hl:small xs.length):spec_l7New xs v=some (ixI xs v):=by
 unfold spec_l7New ixI
 rw [positions xs v hl,Option.bind_some]
 have:=posF_head v xs 0
 cases hp:posF v 0 xs with
 | nil =>
  rw [hp] at this
  cases hf:xs.findIdx? (fun x=>decide (v=x)) with
  | none=>simp [eqI]
  | some j=>rw [hf] at this;cases this
 | cons p r =>
  rw [hp] at this
  cases hf:xs.findIdx? (fun x=>decide (v=x)) with
  | none=>rw [hf] at this;cases this
  | some j =>
   rw [hf] at this
   simp at this
   subst this
   have:¬ ((r.length:Int)+1=0):=by omega
   simp [eqI,this,at?]
theorem impl_new (xs:List Int) (v:Int) (hl:small xs.length):impl_CanonHeap_1 v xs=some (ixI xs v):=by
 unfold impl_CanonHeap_1 ixI
 rw [index_int xs v hl]
 rfl
def canF (h:THeap):THeap:=if cellsB h=true then ⟨h.vars.map (ixI (ordL h.next h.vars)),(ordL h.next h.vars).map fun c=>ixI (ordL h.next h.vars) (h.next.getD c.toNat 0)⟩ else ⟨[],[]⟩
theorem map_flat {α γ:Type} (xs:List α) (f:α→γ):xs.flatMap (fun x=>[f x])=xs.map f:=by
 induction xs with
 | nil=>rfl
 | cons x xs ih=>simp [ih]
theorem ord_seen (h:THeap):Seen h.next (ordL h.next h.vars):=ordSeen h.next h.vars [] ⟨by simp,by simp⟩
theorem canon_loop (xs:List Int) (F:Int→Option Int) (f:Int→Int) (hF:∀ x∈xs,F x=some (f x)) (hl:xs.length≤1000) :
 iter (ρ:=(List Int)) (fun s_8:Int × (List Int) =>
         cond (ltI s_8.1 (xs.length:Int))
          ((at? xs s_8.1).bind fun e_28 =>
           (F e_28).bind fun y_33 =>
            (room (s_8.2.length + [y_33].length) 8).bind fun _ =>
             some (.inl (addI s_8.1 1,s_8.2 ++ [y_33])))
          (some (.inr s_8.2))) (0,[])=some (xs.map f):=by
 refine Tot.eq (Tot.flat (fun b i=>(i,b)) 0 xs (fun x=>[f x]) (acc:=[]) rfl (by simp [map_flat]) (fun i x b hx hb=>?_) fun b=>?_)
 ·have hi:=(List.getElem?_eq_some_iff.1 hx).1
  rw [map_flat] at hb
  simp only [List.length_nil,List.length_map,List.length_singleton] at hb
  simp only [Int.zero_add,zaq,at_nat,hx,Option.bind_some,hF x (List.mem_of_getElem? hx),List.length_singleton]
  rw [if_pos (by omega),room_small (by omega) (by omega),addI_eq (by omega) (by omega)]
  exact Tot.ret rfl
 ·simp only [Int.zero_add,zaq]
  rw [if_neg (by omega)]
  exact Tot.ret rfl
theorem ord_at (h:THeap):∀ c∈ordL h.next h.vars,at? h.next c=some (h.next.getD c.toNat 0):=fun c hc=>at_in ((ord_seen h).rng c hc)
theorem spec_canon (h:THeap) (o:okH h):spec_CanonHeap h=some (canF h):=by
 unfold spec_CanonHeap canF
 have hl:=(ord_seen h).len
 have o2:=o.2
 have o1:=o.1
 have hs:small (ordL h.next h.vars).length:=by unfold small;omega
 simp only [l7Cells h o.v o.n,Option.bind_some,l7Order h o.v o.n]
 cases cellsB h
 ·rfl
 ·simp only [cond_true,if_true]
  rw [canon_loop h.vars (fun c=>spec_l7New (ordL h.next h.vars) c) (ixI (ordL h.next h.vars)) (fun x _=>spec_new _ x hs) (by omega)]
  simp only [Option.bind_some]
  have:=canon_loop (ordL h.next h.vars) (fun c=>(at? h.next c).bind fun e=>spec_l7New (ordL h.next h.vars) e) (fun c=>ixI (ordL h.next h.vars) (h.next.getD c.toNat 0)) (fun x hx=>by
   simp only [ord_at h x hx,Option.bind_some]
   exact spec_new _ _ hs) (by omega)
  simp only [Option.bind_assoc] at this
  rw [this]
  rfl
theorem impl_canon (h:THeap) (o:okH h):impl_CanonHeap h=some (canF h):=by
 unfold impl_CanonHeap canF
 have hl:=(ord_seen h).len
 have o2:=o.2
 have o1:=o.1
 have hs:small (ordL h.next h.vars).length:=by unfold small;omega
 simp only [areCells h o.vn o.v o.n,Option.bind_some,met h o.v o.n]
 cases cellsB h
 ·rfl
 ·simp only [cond_true,if_true]
  rw [canon_loop h.vars (fun c=>impl_CanonHeap_1 c (ordL h.next h.vars)) (ixI (ordL h.next h.vars)) (fun x _=>impl_new _ x hs) (by omega)]
  simp only [Option.bind_some]
  have:=canon_loop (ordL h.next h.vars) (fun c=>(at? h.next c).bind fun e=>impl_CanonHeap_1 e (ordL h.next h.vars)) (fun c=>ixI (ordL h.next h.vars) (h.next.getD c.toNat 0)) (fun x hx=>by
   simp only [ord_at h x hx,Option.bind_some]
   exact impl_new _ _ hs) (by omega)
  simp only [Option.bind_assoc] at this
  rw [this]
  rfl
theorem canF_len (h:THeap):(canF h).vars.length≤h.vars.length∧(canF h).next.length≤h.next.length:=by
 have hl:=(ord_seen h).len
 unfold canF
 split
 ·simp;exact hl
 ·simp

def finF (x:THeap):THeap × Int:=if lkB x=true then (⟨[],[]⟩,4) else (canF x,0)
theorem spec_fin (x:THeap) (o:okH x):((spec_HasLeak x).bind fun y_54=>cond y_54 (some ((⟨[],[]⟩:THeap),(4:Int))) ((spec_CanonHeap x).bind fun y_58=>some (y_58,0)))=some (finF x):=by
 rw [spec_hasLeak x o,spec_canon x o,finF]
 cases lkB x <;> rfl
theorem impl_fin (x:THeap) (o:okH x):((impl_HasLeak x).bind fun y_54=>cond y_54 (some ((⟨[],[]⟩:THeap),(4:Int))) ((impl_CanonHeap x).bind fun y_58=>some (y_58,0)))=some (finF x):=by
 rw [impl_hasLeak x o,impl_canon x o,finF]
 cases lkB x <;> rfl

theorem decI_bit (c x:Int) (hx:-1≤x∧x≤1000):((spec_l1Bit (ltI c x)).bind fun y=>some (subI x y))=some (decI c x):=by
 unfold decI ltI
 by_cases h:c < x
 ·simp [h,spec_l1Bit]
 ·simp only [h,decide_false,if_false]
  show some (subI x 0)=some x
  rw [subI_eq (by omega) (by omega)]
  simp
theorem spec_without (h:THeap) (c:Int) (o:okH h) (hc:0≤c∧c < (h.next.length:Int)) (hv:∀ x∈h.vars,-1≤x∧x≤1000) (hn:∀ x∈h.next,-1≤x∧x≤1000) :
 spec_l8Without h c=some ⟨h.vars.map (decI c),(h.next.take c.toNat ++ h.next.drop (c.toNat+1)).map (decI c)⟩:=by
 have o1:=o.1
 have o2:=o.2
 unfold spec_l8Without
 have h1:iter (ρ:=(List Int)) (fun s_1:Int × (List Int) =>
  cond (ltI s_1.1 (h.vars.length:Int))
   ((at? h.vars s_1.1).bind fun e_16 =>
    (at? h.vars s_1.1).bind fun _ =>
     (spec_l1Bit (ltI c e_16)).bind fun y_26 =>
      (room (s_1.2.length + [subI e_16 y_26].length) 8).bind fun _ =>
       some (.inl (addI s_1.1 1,s_1.2 ++ [subI e_16 y_26])))
   (some (.inr s_1.2))) (0,[])=some (h.vars.map (decI c)):=by
  refine Tot.eq (Tot.flat (fun b i=>(i,b)) 0 h.vars (fun x=>[decI c x]) (acc:=[]) rfl (by simp [map_flat]) (fun i x b hx hb=>?_) fun b=>?_)
  ·have hi:=(List.getElem?_eq_some_iff.1 hx).1
   rw [map_flat] at hb
   simp only [List.length_nil,List.length_map,List.length_singleton] at hb
   have hd:=decI_bit c x (hv x (List.mem_of_getElem? hx))
   obtain ⟨y,hy,hyd⟩:=Option.bind_eq_some_iff.1 hd
   simp only [Option.some.injEq] at hyd
   simp only [Int.zero_add,zaq,at_nat,hx,Option.bind_some,hy,hyd,List.length_singleton]
   rw [if_pos (by omega),room_small (by omega) (by omega),addI_eq (by omega) (by omega)]
   exact Tot.ret rfl
  ·simp only [Int.zero_add,zaq]
   rw [if_neg (by omega)]
   exact Tot.ret rfl
 rw [h1,Option.bind_some]
 obtain ⟨k,rfl⟩:=Int.eq_ofNat_of_zero_le hc.1
 have hk:k < h.next.length:=by omega
 have h2:iter (ρ:=(List Int)) (fun s_42:Int × (List Int) =>
       cond (ltI s_42.1 (h.next.length:Int))
        (cond (neI s_42.1 (k:Int))
         ((at? h.next s_42.1).bind fun e_58 =>
          (at? h.next s_42.1).bind fun _ =>
           (spec_l1Bit (ltI (k:Int) e_58)).bind fun y_68 =>
            (room (s_42.2.length + [subI e_58 y_68].length) 8).bind fun _ =>
             some (.inl (addI s_42.1 1,s_42.2 ++ [subI e_58 y_68])))
         (some (.inl (addI s_42.1 1,s_42.2))))
        (some (.inr s_42.2))) (0,[])=some ((h.next.take k ++ h.next.drop (k+1)).map (decI k)):=by
  have key:Tot (iter (ρ:=(List Int)) (fun s_42:Int × (List Int) =>
   cond (ltI s_42.1 (h.next.length:Int))
    (cond (neI s_42.1 (k:Int))
     ((at? h.next s_42.1).bind fun e_58 =>
      (at? h.next s_42.1).bind fun _ =>
       (spec_l1Bit (ltI (k:Int) e_58)).bind fun y_68 =>
        (room (s_42.2.length + [subI e_58 y_68].length) 8).bind fun _ =>
         some (.inl (addI s_42.1 1,s_42.2 ++ [subI e_58 y_68])))
     (some (.inl (addI s_42.1 1,s_42.2))))
    (some (.inr s_42.2))) (0,[])) (· = (h.next.take k ++ h.next.drop (k+1)).map (decI k)):=by
   refine Tot.loop (fun i s=>s=((i:Int),(((h.next.take i).take k ++ (h.next.take i).drop (k+1)).map (decI k)))) h.next.length (by simp) fun i s hI hi=>?_
   subst hI
   simp only [zaq,cond_ne]
   by_cases hlt:i < h.next.length
   ·rw [if_pos (by omega),addI_eq (by omega) (by omega)]
    have ht:h.next.take (i+1)=h.next.take i ++ [h.next[i]]:=take_snoc1 hlt
    by_cases he:i=k
    ·subst he
     rw [if_pos rfl]
     refine Tot.ret ⟨hlt,?_⟩
     rw [ht]
     have e1:(h.next.take i ++ [h.next[i]]).take i=(h.next.take i).take i:=List.take_append_of_le_length (by simp;omega)
     have e2:(h.next.take i ++ [h.next[i]]).drop (i+1)=[]:=List.drop_eq_nil_of_le (by simp;omega)
     have e3:(h.next.take i).drop (i+1)=[]:=List.drop_eq_nil_of_le (by simp;omega)
     rw [e1,e2,e3]
     rfl
    ·rw [if_neg (by omega)]
     have hx:h.next[i]?=some h.next[i]:=List.getElem?_eq_getElem hlt
     have hd:=decI_bit k h.next[i] (hn _ (List.getElem_mem hlt))
     obtain ⟨y,hy,hyd⟩:=Option.bind_eq_some_iff.1 hd
     simp only [Option.some.injEq] at hyd
     simp only [at_nat,hx,Option.bind_some,hy,hyd,List.length_singleton]
     rw [room_small (by simp;omega) (by omega)]
     refine Tot.ret ⟨hlt,?_⟩
     rw [ht]
     congr 1
     by_cases hik:i < k
     ·have e1:(h.next.take i ++ [h.next[i]]).drop (k+1)=[]:=List.drop_eq_nil_of_le (by simp;omega)
      have e2:(h.next.take i).drop (k+1)=[]:=List.drop_eq_nil_of_le (by simp;omega)
      have e3:(h.next.take i ++ [h.next[i]]).take k=h.next.take i ++ [h.next[i]]:=List.take_of_length_le (by simp;omega)
      have e4:(h.next.take i).take k=h.next.take i:=List.take_of_length_le (by simp;omega)
      rw [e1,e2,e3,e4]
      simp only [List.append_nil,List.map_append,List.map_cons,List.map_nil]
     ·have e1:(h.next.take i ++ [h.next[i]]).take k=(h.next.take i).take k:=List.take_append_of_le_length (by simp;omega)
      have e2:(h.next.take i ++ [h.next[i]]).drop (k+1)=(h.next.take i).drop (k+1) ++ [h.next[i]]:=List.drop_append_of_le_length (by simp;omega)
      rw [e1,e2]
      simp
   ·rw [if_neg (by omega)]
    obtain rfl:i=h.next.length:=by omega
    refine Tot.ret ?_
    show _=_
    simp
  exact key.eq
 rw [h2]
 simp
end Go.Ev

