import Derived.Test.YtfcfpdcjepobpaaGreatEvA7
import Derived.Test.YtfcfpdcjepobpaaGreatEvA9
set_option linter.unusedSimpArgs false
set_option linter.unusedVariables false
set_option linter.unnecessarySimpa false
noncomputable section
namespace Go.Ev
def small (n:Nat):Prop:=n≤4000000

theorem findE {α:Type} (p:α→Bool):∀ (xs:List α) (i:Nat),
 foldE (β:=Unit) (ρ:=Int ⊕ Unit) (fun _ i x=>if p x then some (.inr (.inl (i:Int))) else some (.inl ())) (fun _=>some (.inr ())) () i xs =
  some (match xs.findIdx? p with | some j=>.inl ((i+j:Nat):Int) | none=>.inr ())
 | [],i=>rfl
 | x :: xs,i=>by
  rw [foldE]
  by_cases h:p x=true
  ·simp [h,List.findIdx?_cons]
  ·simp only [h,if_false,Bool.false_eq_true]
   rw [findE p xs (i+1),List.findIdx?_cons]
   simp only [h,if_false,Bool.false_eq_true]
   cases xs.findIdx? p with
   | none=>rfl
   | some j=>simp only [Option.map_some,Option.some.injEq,Sum.inl.injEq];omega

theorem index_int (xs:List Int) (v:Int) (hl:small xs.length):zdg xs v=some (match xs.findIdx? (fun x=>decide (v=x)) with | some j=>(j:Int) | none=>-1):=by
 unfold zdg
 rw [zfm xs (fun (_:Unit) i=>i) (fun _ i x=>if decide (v=x)=true then some (.inr (.inl (i:Int))) else some (.inl ())) (fun _=>some (.inr ())) (fun b i x hx=>?_) (fun b=>?_) (),findE]
 ·cases xs.findIdx? (fun x=>decide (v=x)) with
  | none=>rfl
  | some j=>simp
 ·have hlt:=(List.getElem?_eq_some_iff.1 hx).1
  unfold small at hl
  rw [zck,hx,zam (by omega) (by omega)]
  simp only [ltI,eqI,zaf,Option.bind_some]
  rw [if_pos (by omega)]
  by_cases h:v=x <;> simp [h]
 ·simp [ltI]

theorem zgd (xs:List Int) (v:Int) (hl:small xs.length):zaj xs v=some (decide (v∈xs)):=by
 unfold zaj
 rw [index_int xs v hl]
 simp only [Option.bind_some,leI,Option.some.injEq]
 cases h:xs.findIdx? (fun x=>decide (v=x)) with
 | none =>
  rw [List.findIdx?_eq_none_iff] at h
  have:v ∉ xs:=fun hm=>by simpa using h v hm
  simp [this]
 | some j =>
  rw [List.findIdx?_eq_some_iff_getElem] at h
  obtain ⟨hj,hp,_⟩:=h
  have:v∈xs:=by rw [of_decide_eq_true hp];exact List.getElem_mem hj
  simp [this]

theorem zft (n lo hi:Int):zcs n lo hi=some (decide (lo≤n∧n≤hi)):=by
 unfold zcs
 by_cases h:lo≤n <;> simp [leI,ltI,h]
theorem zcq (n lo hi:Int):zav n lo hi=some (decide (lo≤n∧n≤hi)):=by
 unfold zav
 by_cases h:lo≤n <;> simp [leI,ltI,h]

theorem positions_eq:zff=zca:=rfl
theorem isTruth_eq (a:Int):zes a=zbc a:=by
 unfold zes zbc
 simp [zft,zcq]
theorem zod:zat=zbl:=by
 funext a b
 unfold zat zbl
 simp only [isTruth_eq]

def posF (n:Int):Nat→List Int→List Int
 | _,[]=>[]
 | i,x :: xs=>if x=n then (i:Int) :: posF n (i+1) xs else posF n (i+1) xs
theorem posE (n:Int) (N:Nat) (hN:small N):∀ (xs:List Int) (i:Nat) (acc:List Int),acc.length+xs.length≤N →
 foldE (β:=List Int) (ρ:=List Int) (fun acc i x=>if x=n then (room (acc.length+1) 8).bind fun _=>some (.inl (acc ++ [(i:Int)])) else some (.inl acc)) (fun acc=>some acc) acc i xs=some (acc ++ posF n i xs)
 | [],i,acc,_=>by simp [foldE,posF]
 | x :: xs,i,acc,h=>by
  rw [foldE]
  simp only [List.length_cons] at h
  by_cases hx:x=n
  ·unfold small at hN
   have hr:room (acc.length+1) 8=some ():=by unfold room maxBytes;rw [if_pos (by omega)]
   simp only [hx,if_true,hr,Option.bind_some]
   rw [posE n N hN xs (i+1) (acc ++ [(i:Int)]) (by simp;omega)]
   simp [posF,hx]
  ·simp only [hx,if_false]
   rw [posE n N hN xs (i+1) acc (by omega)]
   simp [posF,hx]
theorem positions (xs:List Int) (n:Int) (hl:small xs.length):zca xs n=some (posF n 0 xs):=by
 unfold zca
 rw [zfm xs (fun (b:List Int) i=>(b,i)) (fun acc i x=>if x=n then (room (acc.length+1) 8).bind fun _=>some (.inl (acc ++ [(i:Int)])) else some (.inl acc)) (fun acc=>some acc) (fun b i x hx=>?_) (fun b=>?_) [],posE n xs.length hl xs 0 [] (by simp)]
 ·simp
 ·have hlt:=(List.getElem?_eq_some_iff.1 hx).1
  unfold small at hl
  simp only [zck,hx,ltI,eqI,zaf,Option.bind_some]
  rw [if_pos (by omega),zam (by omega) (by omega)]
  by_cases h:x=n
  ·simp only [h,if_true,List.length_singleton]
   cases room (b.length+1) 8 <;> rfl
  ·simp [h]
 ·simp [ltI]
theorem posF_mem (n:Int):∀ (xs:List Int) (i:Nat),0 < (posF n i xs).length ↔ n∈xs
 | [],i=>by simp [posF]
 | x :: xs,i=>by
  simp only [posF]
  by_cases h:x=n
  ·simp [h]
  ·have:=posF_mem n xs (i+1)
   simp only [h,if_false,this,List.mem_cons]
   constructor
   ·exact .inr
   ·rintro (h' | h')
    ·exact absurd h'.symm h
    ·exact h'
theorem l7Has (xs:List Int) (n:Int) (hl:small xs.length):zcl xs n=some (decide (n∈xs)):=by
 unfold zcl
 rw [positions xs n hl]
 have:=posF_mem n xs 0
 simp only [Option.bind_some,ltI,Option.some.injEq]
 rw [decide_eq_decide,← this]
 omega

theorem znt:∀ (n:Nat) (xs:List Int),xs.Nodup→(∀ x∈xs,0≤x∧x < n)→xs.length≤n
 | 0,xs,_,h=>by
  cases xs with
  | nil=>exact Nat.le_refl _
  | cons x xs=>have:=h x (List.mem_cons_self ..);omega
 | n+1,xs,hn,h=>by
  have h1:=znt n (xs.erase (n:Int)) (hn.erase _) (fun x hx=>by
   have hx':=(hn.mem_erase_iff).1 hx
   have:=h x hx'.2
   have hne:=hx'.1
   omega)
  by_cases hm:(n:Int)∈xs
  ·rw [List.length_erase_of_mem hm] at h1;omega
  ·rw [List.erase_of_not_mem hm] at h1;omega

theorem zjf (h:THeap) (n:Int) (hs:small h.next.length):zbe h n=some (decide (0≤n∧n < (h.next.length:Int))):=by
 unfold zbe
 unfold small at hs
 rw [zft,zea (by omega) (by omega)]
 simp only [Option.bind_some,Option.some.injEq,decide_eq_decide]
 omega

def fol (next:List Int):Nat→Int→List Int→(List Int) ⊕ Unit
 | 0,_,out=>.inl out
 | f+1,cur,out=>if cur = -1 then .inl out else if cur∈out then .inl out else if 0≤cur∧cur < (next.length:Int) then fol next f (next.getD cur.toNat 0) (out ++ [cur]) else .inr ()

theorem at_in {xs:List Int} {c:Int} (h:0≤c∧c < (xs.length:Int)):at? xs c=some (xs.getD c.toNat 0):=by
 unfold at?
 rw [if_pos h.1]
 have:c.toNat < xs.length:=by omega
 simp [List.getD,List.getElem?_eq_getElem this]
structure Seen (next out:List Int):Prop where
 nd:out.Nodup
 rng:∀ x∈out,0≤x∧x < (next.length:Int)
theorem Seen.len {next out:List Int} (h:Seen next out):out.length≤next.length:=znt _ _ h.nd h.rng
theorem Seen.push {next out:List Int} (h:Seen next out) {c:Int} (hc:c ∉ out) (hr:0≤c∧c < (next.length:Int)):Seen next (out ++ [c]) :=
 ⟨by rw [List.nodup_append];exact ⟨h.nd,by simp,fun a ha b hb=>by simp at hb;subst hb;rintro rfl;exact hc ha⟩,fun x hx=>by
  rcases List.mem_append.1 hx with hx | hx
  ·exact h.rng x hx
  ·simp at hx;subst hx;exact hr⟩

theorem spec_fol (h:THeap) (hs:small h.next.length):∀ (f:Nat) (cur:Int) (out:List Int),Seen h.next out→h.next.length+1≤f+out.length →
 iter (ρ:=((List Int)) ⊕ (Unit)) (fun s_1:Int × (List Int) =>
  cond (neI s_1.1 (-1))
   ((zcl s_1.2 s_1.1).bind fun y_12 =>
    cond y_12
     (some (.inr (.inl s_1.2)))
     ((zav s_1.1 0 (subI (h.next.length:Int) 1)).bind fun y_16 =>
      cond y_16
       ((room (s_1.2.length + [s_1.1].length) 8).bind fun _ =>
        (at? h.next s_1.1).bind fun e_22 =>
         some (.inl (e_22,s_1.2 ++ [s_1.1])))
       (some (.inr (.inr ())))))
   (some (.inr (.inl s_1.2)))) (cur,out)=some (fol h.next f cur out)
 | 0,cur,out,hS,hf=>by have:=hS.len;omega
 | f+1,cur,out,hS,hf=>by
  have hl:=hS.len
  have hs':=hs
  unfold small at hs'
  have hso:small out.length:=by unfold small;omega
  by_cases h1:cur = -1
  ·rw [zex (r:=.inl out) (by simp [neI,h1])]
   simp [fol,h1]
  ·by_cases h2:cur∈out
   ·rw [zex (r:=.inl out) (by simp [neI,h1,l7Has out cur hso,h2])]
    simp [fol,h1,h2]
   ·by_cases h3:0≤cur∧cur < (h.next.length:Int)
    ·have hr:room (out.length+1) 8=some ():=by unfold room maxBytes;rw [if_pos (by omega)]
     rw [zin (s':=(h.next.getD cur.toNat 0,out ++ [cur])) (by
      have h4:0≤cur∧cur≤(h.next.length:Int) - 1:=by omega
      simp only [neI,h1,decide_false,Bool.not_false,cond_true,l7Has out cur hso,h2,Option.bind_some,cond_false,zcq,zea (a:=(h.next.length:Int)) (b:=1) (by omega) (by omega),h4,and_self,decide_true,List.length_singleton,hr,at_in h3]),
      spec_fol h hs f _ _ (hS.push h2 h3) (by simp;omega)]
     simp [fol,h1,h2,h3]
    ·rw [zex (r:=.inr ()) (by
      have h4:¬ (0≤cur∧cur≤(h.next.length:Int) - 1):=by omega
      simp only [neI,h1,decide_false,Bool.not_false,cond_true,l7Has out cur hso,h2,Option.bind_some,cond_false,zcq,zea (a:=(h.next.length:Int)) (b:=1) (by omega) (by omega),h4])]
     simp [fol,h1,h2,h3]

def folL (next:List Int) (c:Int):List Int:=Sum.elim id (fun _=>[]) (fol next (next.length+1) c [])
theorem zij (h:THeap) (hs:small h.next.length) (c:Int):zcy h c=some (folL h.next c):=by
 unfold zcy
 rw [spec_fol h hs (h.next.length+1) c [] ⟨by simp,by simp⟩ (by simp)]
 unfold folL
 cases fol h.next (h.next.length+1) c [] <;> rfl

theorem impl_fol (h:THeap) (hs:small h.next.length) (cell:Int) (hc:cell≠-1):∀ (f:Nat) (cur:Int) (out:List Int),Seen h.next out→h.next.length+1≤f+out.length →
 iter (ρ:=((List Int)) ⊕ (Unit)) (fun s_1:(List Int) × Int =>
  cond (neI s_1.2 (-1))
   ((zbe h s_1.2).bind fun y_13 =>
    cond y_13
     ((zaj s_1.1 s_1.2).bind fun y_17 =>
      cond y_17
       (some (.inr (.inl s_1.1)))
       ((room (s_1.1.length + [s_1.2].length) 8).bind fun _ =>
        (at? h.next s_1.2).bind fun e_23 =>
         some (.inl (s_1.1 ++ [s_1.2],e_23))))
     (some (.inr (.inr ()))))
   (cond (eqI cell (-1))
    ((zbe h s_1.2).bind fun y_29 =>
     cond y_29
      ((zaj s_1.1 s_1.2).bind fun y_33 =>
       cond y_33
        (some (.inr (.inl s_1.1)))
        ((room (s_1.1.length + [s_1.2].length) 8).bind fun _ =>
         (at? h.next s_1.2).bind fun e_39 =>
          some (.inl (s_1.1 ++ [s_1.2],e_39))))
      (some (.inr (.inr ()))))
    (some (.inr (.inl s_1.1))))) (out,cur)=some (fol h.next f cur out)
 | 0,cur,out,hS,hf=>by have:=hS.len;omega
 | f+1,cur,out,hS,hf=>by
  have hl:=hS.len
  have hs':=hs
  unfold small at hs'
  have hso:small out.length:=by unfold small;omega
  by_cases h1:cur = -1
  ·rw [zex (r:=.inl out) (by simp [neI,eqI,h1,hc])]
   simp [fol,h1]
  ·by_cases h3:0≤cur∧cur < (h.next.length:Int)
   ·by_cases h2:cur∈out
    ·rw [zex (r:=.inl out) (by simp [neI,h1,zjf h cur hs,h3,zgd out cur hso,h2])]
     simp [fol,h1,h2]
    ·have hr:room (out.length+1) 8=some ():=by unfold room maxBytes;rw [if_pos (by omega)]
     rw [zin (s':=(out ++ [cur],h.next.getD cur.toNat 0)) (by
      simp only [neI,h1,decide_false,Bool.not_false,cond_true,zjf h cur hs,h3,zgd out cur hso,h2,Option.bind_some,cond_false,and_self,decide_true,List.length_singleton,hr,at_in h3]),
      impl_fol h hs cell hc f _ _ (hS.push h2 h3) (by simp;omega)]
     simp [fol,h1,h2,h3]
   ·have h2:cur ∉ out:=fun hm=>h3 (hS.rng cur hm)
    rw [zex (r:=.inr ()) (by simp only [neI,h1,decide_false,Bool.not_false,cond_true,zjf h cur hs,h3,Option.bind_some,cond_false])]
    simp [fol,h1,h2,h3]

theorem zip (h:THeap) (hs:small h.next.length) (c:Int):zdb h c=some (folL h.next c):=by
 unfold zdb
 by_cases hc:c = -1
 ·rw [zex (r:=.inr ()) (by
   have:¬ (0≤c∧c < (h.next.length:Int)):=by omega
   simp [neI,eqI,hc,zjf h _ hs])]
  simp [folL,fol,hc]
 ·rw [impl_fol h hs c hc (h.next.length+1) c [] ⟨by simp,by simp⟩ (by simp)]
  unfold folL
  cases fol h.next (h.next.length+1) c [] <;> rfl
theorem zre (next:List Int) (c:Int):(folL next c).length≤next.length:=by
 have key:∀ f cur out,Seen next out→(Sum.elim id (fun _=>[]) (fol next f cur out):List Int).length≤next.length:=by
  intro f
  induction f with
  | zero=>intro cur out hS;exact hS.len
  | succ f ih =>
   intro cur out hS
   simp only [fol]
   split
   ·exact hS.len
   ·split
    ·exact hS.len
    ·rename_i h2
     split
     ·rename_i h3;exact ih _ _ (hS.push h2 h3)
     ·simp
 exact key _ _ _ ⟨by simp,by simp⟩

theorem allE {α ρ:Type} (p:α→Bool) (rf rt:ρ):∀ (xs:List α) (i:Nat),foldE (β:=Unit) (fun _ _ x=>if p x then some (.inl ()) else some (.inr rf)) (fun _=>some rt) () i xs=some (if xs.all p then rt else rf)
 | [],_=>rfl
 | x :: xs,i=>by
  rw [foldE]
  by_cases h:p x=true
  ·simp only [h,if_true]
   rw [allE p rf rt xs (i+1)]
   simp [h]
  ·simp [h]
def inH (next:List Int) (n:Int):Bool:=decide (-1≤n∧n≤(next.length:Int) - 1)
def cellsB (h:THeap):Bool:=h.vars.all (inH h.next) && h.next.all (inH h.next)
theorem l7Cells (h:THeap) (hv:small h.vars.length) (hs:small h.next.length):zdv h=some (cellsB h):=by
 have hv':=hv
 have hs':=hs
 unfold small at hv' hs'
 unfold zdv
 rw [zfm h.vars (fun (_:Unit) i=>i) (fun _ _ x=>if inH h.next x then some (.inl ()) else some (.inr (.inl ()))) (fun _=>some (.inr ())) (fun b i x hx=>?_) (fun b=>?_) (),allE]
 ·simp only [Option.bind_some]
  by_cases h1:h.vars.all (inH h.next)=true
  ·rw [if_pos h1]
   simp only [Sum.elim_inr]
   rw [zfm h.next (fun (_:Unit) i=>i) (fun _ _ x=>if inH h.next x then some (.inl ()) else some (.inr (.inl false))) (fun _=>some (.inr ())) (fun b i x hx=>?_) (fun b=>?_) (),allE]
   ·by_cases h2:h.next.all (inH h.next)=true
    ·simp only [h2,if_true,Option.bind_some,Sum.elim_inr,cellsB,h1,Bool.and_self]
    ·simp only [h2,if_false,Option.bind_some,Sum.elim_inl,cellsB,h1,Bool.true_and,Bool.false_eq_true]
   ·have hlt:=(List.getElem?_eq_some_iff.1 hx).1
    simp only [zck,hx,ltI,zaf,Option.bind_some,zcq]
    rw [if_pos (by omega),zam (by omega) (by omega),zea (by omega) (by omega)]
    by_cases h3:-1≤x∧x≤(h.next.length:Int) - 1 <;> simp [inH,h3]
   ·simp [ltI]
  ·rw [if_neg h1]
   simp [cellsB,h1]
 ·have hlt:=(List.getElem?_eq_some_iff.1 hx).1
  simp only [zck,hx,ltI,zaf,Option.bind_some,zcq]
  rw [if_pos (by omega),zam (by omega) (by omega),zea (by omega) (by omega)]
  by_cases h3:-1≤x∧x≤(h.next.length:Int) - 1 <;> simp [inH,h3]
 ·simp [ltI]

theorem indexF {α:Type} (xs:List α) (f:α→Option Bool) (p:α→Bool) (hf:∀ x∈xs,f x=some (p x)) (hl:small xs.length) :
 iter (ρ:=(Int) ⊕ (Unit)) (fun s_1:Int =>
  cond (ltI s_1 (xs.length:Int))
   ((at? xs s_1).bind fun e_12 =>
    (f e_12).bind fun y_17 =>
     cond y_17
      (some (.inr (.inl s_1)))
      (some (.inl (addI s_1 1))))
   (some (.inr (.inr ())))) 0=some (match xs.findIdx? p with | some j=>.inl (j:Int) | none=>.inr ()):=by
 rw [zfm xs (fun (_:Unit) i=>i) (fun _ i x=>if p x=true then some (.inr (.inl (i:Int))) else some (.inl ())) (fun _=>some (.inr ())) (fun b i x hx=>?_) (fun b=>?_) (),findE]
 ·simp
 ·have hlt:=(List.getElem?_eq_some_iff.1 hx).1
  unfold small at hl
  simp only [zck,hx,Option.bind_some,ltI,zaf,hf x (List.mem_of_getElem? hx)]
  rw [if_pos (by omega),zam (by omega) (by omega)]
  cases p x <;> simp
 ·simp [ltI]
theorem zmi {α:Type} (xs:List α) (p:α→Bool):leI 0 (match xs.findIdx? p with | some j=>(j:Int) | none=>-1)=xs.any p:=by
 cases h:xs.findIdx? p with
 | none =>
  rw [List.findIdx?_eq_none_iff] at h
  have:xs.any p=false:=List.any_eq_false.2 fun x hx=>by simp [h x hx]
  rw [this];rfl
 | some j =>
  rw [List.findIdx?_eq_some_iff_getElem] at h
  obtain ⟨hj,hp,_⟩:=h
  have:xs.any p=true:=List.any_eq_true.2 ⟨_,List.getElem_mem hj,hp⟩
  rw [this]
  simp [leI]
theorem zmq (xs:List Int) (f:Int→Option Bool) (p:Int→Bool) (hf:∀ x∈xs,f x=some (p x)) (hl:small xs.length):zbm xs f=some (xs.any p):=by
 unfold zbm zem
 rw [indexF xs f p hf hl,← zmi]
 cases xs.findIdx? p <;> rfl
theorem zmp (xs:List TStructure) (f:TStructure→Option Bool) (p:TStructure→Bool) (hf:∀ x∈xs,f x=some (p x)) (hl:small xs.length):zbd xs f=some (xs.any p):=by
 unfold zbd zcr
 rw [indexF xs f p hf hl,← zmi]
 cases xs.findIdx? p <;> rfl
theorem zak {n b:Nat} (hn:n≤4000000) (hb:b≤1000):room n b=some ():=by
 unfold room maxBytes
 have:n * (b+1)≤4000000 * 1001:=Nat.mul_le_mul hn (by omega)
 rw [if_pos (by omega)]
theorem areCells (h:THeap) (hvs:small (h.vars ++ h.next).length) (hv:small h.vars.length) (hs:small h.next.length):zbs h=some (cellsB h):=by
 have hv':=hv
 have hs':=hs
 unfold small at hv' hs'
 have hc:zdq [h.vars,h.next]=some (h.vars ++ h.next):=by
  unfold zdq zjw
  rw [zak (by simp) (by omega),zak (by unfold small at hvs;simpa using hvs) (by omega)]
  simp
 unfold zbs
 rw [hc]
 have hp:∀ n:Int,zbq n h=some (!inH h.next n):=fun n=>by
  unfold zbq
  rw [zjf h n hs]
  by_cases h1:n = -1
  ·simp [neI,h1,inH];omega
  ·simp only [neI,h1,decide_false,Bool.not_false,cond_true,Option.bind_some,Option.some.injEq,inH]
   have:(0≤n∧n < (h.next.length:Int)) ↔ (-1≤n∧n≤(h.next.length:Int) - 1):=by omega
   rw [decide_eq_decide.2 this]
   rfl
 have hcf:zbm (h.vars ++ h.next) (fun x0=>zbq x0 h)=some ((h.vars ++ h.next).any fun n=>!inH h.next n):=by
  exact zmq _ _ _ (fun x _=>hp x) hvs
 simp only [Option.bind_some,hcf,cellsB,List.any_append,Option.some.injEq]
 rw [← List.not_all_eq_any_not,← List.not_all_eq_any_not]
 cases h.vars.all (inH h.next) <;> cases h.next.all (inH h.next) <;> rfl

theorem zif (next:List Int) (c:Int):Seen next (folL next c):=by
 have key:∀ f cur out,Seen next out→Seen next (Sum.elim id (fun _=>[]) (fol next f cur out):List Int):=by
  intro f
  induction f with
  | zero=>intro cur out hS;exact hS
  | succ f ih =>
   intro cur out hS
   simp only [fol]
   split
   ·exact hS
   ·split
    ·exact hS
    ·rename_i h2
     split
     ·rename_i h3;exact ih _ _ (hS.push h2 h3)
     ·exact ⟨by simp,by simp⟩
 exact key _ _ _ ⟨by simp,by simp⟩
def push (acc:List Int) (x:Int):List Int:=if x∈acc then acc else acc ++ [x]
theorem Seen.push' {next out:List Int} (h:Seen next out) {c:Int} (hr:0≤c∧c < (next.length:Int)):Seen next (Go.Ev.push out c):=by
 unfold Go.Ev.push
 split
 ·exact h
 ·rename_i hc;exact h.push hc hr
theorem Seen.pushs {next:List Int}:∀ (ys out:List Int),Seen next out→(∀ x∈ys,0≤x∧x < (next.length:Int))→Seen next (ys.foldl Go.Ev.push out)
 | [],_,h,_=>h
 | y :: ys,out,h,hr=>Seen.pushs ys _ (h.push' (hr y (List.mem_cons_self ..))) fun x hx=>hr x (List.mem_cons_of_mem _ hx)
theorem pushE (next:List Int) (hs:small next.length) (q:List Int→Int→Option Bool) (hq:∀ acc x,small acc.length→q acc x=some (decide (x∈acc))):∀ (ys:List Int) (i:Nat) (acc:List Int),Seen next acc→(∀ x∈ys,0≤x∧x < (next.length:Int)) →
 foldE (β:=List Int) (ρ:=List Int) (fun acc _ x=>(q acc x).bind fun b=>cond b (some (.inl acc)) ((room (acc.length+1) 8).bind fun _=>some (.inl (acc ++ [x])))) (fun acc=>some acc) acc i ys=some (ys.foldl push acc)
 | [],_,_,_,_=>rfl
 | y :: ys,i,acc,h,hr=>by
  have hl:=h.len
  unfold small at hs
  have hsa:small acc.length:=by unfold small;omega
  rw [foldE]
  by_cases hm:y∈acc
  ·simp only [hq acc y hsa,hm,decide_true,Option.bind_some,cond_true]
   rw [pushE next hs q hq ys (i+1) acc h fun x hx=>hr x (List.mem_cons_of_mem _ hx)]
   simp [push,hm]
  ·have hroom:room (acc.length+1) 8=some ():=by unfold room maxBytes;rw [if_pos (by omega)]
   simp only [hq acc y hsa,hm,decide_false,Option.bind_some,cond_false,hroom]
   rw [pushE next hs q hq ys (i+1) _ (h.push hm (hr y (List.mem_cons_self ..))) fun x hx=>hr x (List.mem_cons_of_mem _ hx)]
   simp [push,hm]
def ordL (next vars:List Int):List Int:=vars.foldl (fun acc e=>(folL next e).foldl push acc) []
theorem ordSeen (next:List Int):∀ (vs acc:List Int),Seen next acc→Seen next (vs.foldl (fun acc e=>(folL next e).foldl push acc) acc)
 | [],_,h=>h
 | v :: vs,acc,h=>ordSeen next vs _ (Seen.pushs _ _ h (zif next v).rng)

theorem ordE (next:List Int) (F:List Int→Int→Option (List Int)) (hF:∀ acc e,Seen next acc→F acc e=some ((folL next e).foldl push acc)):∀ (vs:List Int) (i:Nat) (acc:List Int),Seen next acc →
 foldE (β:=List Int) (ρ:=List Int) (fun acc _ e=>(F acc e).map .inl) (fun acc=>some acc) acc i vs=some (vs.foldl (fun acc e=>(folL next e).foldl push acc) acc)
 | [],_,_,_=>rfl
 | v :: vs,i,acc,h=>by
  rw [foldE,hF acc v h]
  simp only [Option.map_some]
  rw [ordE next F hF vs (i+1) _ (Seen.pushs _ _ h (zif next v).rng)]
  rfl
theorem met (h:THeap) (hv:small h.vars.length) (hs:small h.next.length):zey h=some (ordL h.next h.vars):=by
 unfold zey
 have hv':=hv
 unfold small at hv'
 rw [zfm h.vars (fun (b:List Int) i=>(b,i)) (fun acc _ e=>(iter (ρ:=(List Int)) (fun s_22:Int × (List Int) =>
               cond (ltI s_22.1 ((folL h.next e).length:Int))
                ((at? (folL h.next e) s_22.1).bind fun e_38 =>
                 (zaj s_22.2 e_38).bind fun y_43 =>
                  cond y_43
                   (some (.inl (addI s_22.1 1,s_22.2)))
                   ((room (s_22.2.length + [e_38].length) 8).bind fun _ =>
                    some (.inl (addI s_22.1 1,s_22.2 ++ [e_38]))))
                (some (.inr s_22.2))) (0,acc)).map .inl) (fun acc=>some acc) (fun b i x hx=>?_) (fun b=>?_) []]
 ·rw [ordE h.next (fun acc e=>iter (ρ:=(List Int)) (fun s_22:Int × (List Int) =>
             cond (ltI s_22.1 ((folL h.next e).length:Int))
              ((at? (folL h.next e) s_22.1).bind fun e_38 =>
               (zaj s_22.2 e_38).bind fun y_43 =>
                cond y_43
                 (some (.inl (addI s_22.1 1,s_22.2)))
                 ((room (s_22.2.length + [e_38].length) 8).bind fun _ =>
                  some (.inl (addI s_22.1 1,s_22.2 ++ [e_38]))))
              (some (.inr s_22.2))) (0,acc)) (fun acc e hS=>?_) h.vars 0 [] ⟨by simp,by simp⟩]
  ·rfl
  ·have hfl:=zre h.next e
   have hs':=hs
   unfold small at hs'
   rw [zfm (folL h.next e) (fun (b:List Int) i=>(i,b)) (fun acc _ x=>(zaj acc x).bind fun b=>cond b (some (.inl acc)) ((room (acc.length+1) 8).bind fun _=>some (.inl (acc ++ [x])))) (fun acc=>some acc) (fun b i x hx=>?_) (fun b=>?_) acc,
    pushE h.next hs zaj zgd _ _ _ hS (zif h.next e).rng]
   ·have hlt:=(List.getElem?_eq_some_iff.1 hx).1
    simp only [zck,hx,Option.bind_some,ltI,zaf]
    rw [if_pos (by omega),zam (by omega) (by omega)]
    cases zaj b x with
    | none=>rfl
    | some t =>
     cases t with
     | true=>rfl
     | false =>
      simp only [Option.bind_some,cond_false,List.length_singleton]
      cases room (b.length+1) 8 <;> rfl
   ·simp [ltI]
 ·have hlt:=(List.getElem?_eq_some_iff.1 hx).1
  simp only [zck,hx,Option.bind_some,ltI,zaf,zip h hs]
  rw [if_pos (by omega),zam (by omega) (by omega)]
  generalize iter _ _=r
  cases r <;> rfl
 ·simp [ltI]
theorem l7Order (h:THeap) (hv:small h.vars.length) (hs:small h.next.length):zeo h=some (ordL h.next h.vars):=by
 unfold zeo
 have hv':=hv
 unfold small at hv'
 rw [zfm h.vars (fun (b:List Int) i=>(b,i)) (fun acc _ e=>(iter (ρ:=(List Int)) (fun s_22:Int × (List Int) =>
               cond (ltI s_22.1 ((folL h.next e).length:Int))
                ((at? (folL h.next e) s_22.1).bind fun e_38 =>
                 (zcl s_22.2 e_38).bind fun y_43 =>
                  cond y_43
                   (some (.inl (addI s_22.1 1,s_22.2)))
                   ((at? (folL h.next e) s_22.1).bind fun _ =>
                    (room (s_22.2.length + [e_38].length) 8).bind fun _ =>
                     some (.inl (addI s_22.1 1,s_22.2 ++ [e_38]))))
                (some (.inr s_22.2))) (0,acc)).map .inl) (fun acc=>some acc) (fun b i x hx=>?_) (fun b=>?_) []]
 ·rw [ordE h.next (fun acc e=>iter (ρ:=(List Int)) (fun s_22:Int × (List Int) =>
             cond (ltI s_22.1 ((folL h.next e).length:Int))
              ((at? (folL h.next e) s_22.1).bind fun e_38 =>
               (zcl s_22.2 e_38).bind fun y_43 =>
                cond y_43
                 (some (.inl (addI s_22.1 1,s_22.2)))
                 ((at? (folL h.next e) s_22.1).bind fun _ =>
                  (room (s_22.2.length + [e_38].length) 8).bind fun _ =>
                   some (.inl (addI s_22.1 1,s_22.2 ++ [e_38]))))
              (some (.inr s_22.2))) (0,acc)) (fun acc e hS=>?_) h.vars 0 [] ⟨by simp,by simp⟩]
  ·rfl
  ·have hfl:=zre h.next e
   have hs':=hs
   unfold small at hs'
   rw [zfm (folL h.next e) (fun (b:List Int) i=>(i,b)) (fun acc _ x=>(zcl acc x).bind fun b=>cond b (some (.inl acc)) ((room (acc.length+1) 8).bind fun _=>some (.inl (acc ++ [x])))) (fun acc=>some acc) (fun b i x hx=>?_) (fun b=>?_) acc,
    pushE h.next hs zcl l7Has _ _ _ hS (zif h.next e).rng]
   ·have hlt:=(List.getElem?_eq_some_iff.1 hx).1
    simp only [zck,hx,Option.bind_some,ltI,zaf]
    rw [if_pos (by omega),zam (by omega) (by omega)]
    cases zcl b x with
    | none=>rfl
    | some t =>
     cases t with
     | true=>rfl
     | false =>
      simp only [Option.bind_some,cond_false,List.length_singleton]
      cases room (b.length+1) 8 <;> rfl
   ·simp [ltI]
 ·have hlt:=(List.getElem?_eq_some_iff.1 hx).1
  simp only [zck,hx,Option.bind_some,ltI,zaf,zij h hs]
  rw [if_pos (by omega),zam (by omega) (by omega)]
  generalize iter _ _=r
  cases r <;> rfl
 ·simp [ltI]

def foldN {β:Type} (f:β→Int→Option β):Int→Nat→β→Option β
 | _,0,b=>some b
 | lo,n+1,b=>(f b lo).bind (foldN f (lo+1) n)
theorem zjx {β σ ρ:Type} {step:σ→Option (σ ⊕ ρ)} (S:β→Int→σ) (f:β→Int→Option β) (e:β→ρ):∀ (n:Nat) (lo:Int) (b:β),
 (∀ b (i:Int),lo≤i→i < lo+n→step (S b i)=(f b i).map (fun b'=>.inl (S b' (i+1))))→(∀ b,step (S b (lo+n))=some (.inr (e b)))→iter step (S b lo)=(foldN f lo n b).map e
 | 0,lo,b,_,h2=>by
  have:=h2 b
  rw [show lo+((0:Nat):Int)=lo by simp] at this
  rw [zex this]
  rfl
 | n+1,lo,b,h1,h2=>by
  have hs:=h1 b lo (Int.le_refl _) (by omega)
  rw [foldN]
  cases hf:f b lo with
  | none=>rw [hf] at hs;rw [zoc hs];rfl
  | some b' =>
   rw [hf] at hs
   rw [zin (s':=S b' (lo+1)) hs]
   simp only [Option.bind_some]
   refine zjx S f e n (lo+1) b' (fun b i hi1 hi2=>h1 b i (by omega) (by omega)) fun b=>?_
   rw [show lo+1+(n:Int)=lo+((n+1:Nat):Int) by omega]
   exact h2 b
def upto:Int→Nat→List Int
 | _,0=>[]
 | lo,n+1=>lo :: upto (lo+1) n
theorem zgq:∀ (n:Nat) (lo:Int),(upto lo n).length=n
 | 0,_=>rfl
 | n+1,lo=>by simp [upto,zgq n]
theorem zpr {α:Type} (g:Int→α) (ok:List α→Int→Option Unit) (N:Nat) (hok:∀ acc x,acc.length < N→ok acc x=some ()):∀ (n:Nat) (lo:Int) (acc:List α),acc.length+n≤N →
 foldN (fun acc x=>(ok acc x).bind fun _=>some (acc ++ [g x])) lo n acc=some (acc ++ (upto lo n).map g)
 | 0,_,acc,_=>by simp [foldN,upto]
 | n+1,lo,acc,h=>by
  rw [foldN,hok acc lo (by omega)]
  simp only [Option.bind_some]
  rw [zpr g ok N hok n (lo+1) _ (by simp;omega)]
  simp [upto]

def lexF (vals:List Int):Nat→List (List Int)
 | 0=>[[]]
 | n+1=>vals.flatMap fun v=>(lexF vals n).map (v :: ·)
def lexStep (vals:List Int) (out:List (List Int)):List (List Int):=out.flatMap fun l=>vals.map fun x=>l ++ [x]
theorem lexStep_cons (vals:List Int) (v:Int) (out:List (List Int)):lexStep vals (out.map (v :: ·))=(lexStep vals out).map (v :: ·):=by
 unfold lexStep
 rw [List.flatMap_map,List.map_flatMap]
 congr 1
 funext l
 simp
theorem flatMap_assoc' {α β γ:Type} (xs:List α) (f:α→List β) (g:β→List γ):(xs.flatMap f).flatMap g=xs.flatMap fun x=>(f x).flatMap g:=by
 induction xs with
 | nil=>rfl
 | cons x xs ih=>simp [ih]
theorem lexF_step (vals:List Int):∀ n,lexF vals (n+1)=lexStep vals (lexF vals n)
 | 0=>by
  simp only [lexF,lexStep,List.flatMap_cons,List.flatMap_nil,List.append_nil,List.nil_append,List.map_cons,List.map_nil]
  induction vals with
  | nil=>rfl
  | cons v vs ih=>simp [ih]
 | n+1=>by
  have ih:=lexF_step vals n
  show vals.flatMap (fun v=>(lexF vals (n+1)).map (v :: ·))=lexStep vals (vals.flatMap fun v=>(lexF vals n).map (v :: ·))
  unfold lexStep
  rw [flatMap_assoc']
  congr 1
  funext v
  rw [ih]
  exact (lexStep_cons vals v (lexF vals n)).symm
theorem zgh (vals:List Int):∀ n,(lexF vals n).length=vals.length ^ n
 | 0=>rfl
 | n+1=>by
  have key:∀ ws:List Int,(ws.flatMap fun v=>(lexF vals n).map (v :: ·)).length=ws.length * vals.length ^ n:=by
   intro ws
   induction ws with
   | nil=>simp
   | cons w ws ih=>rw [List.flatMap_cons,List.length_append,ih,List.length_map,zgh vals n,List.length_cons,Nat.add_mul,Nat.one_mul,Nat.add_comm]
  rw [lexF,key,Nat.pow_succ,Nat.mul_comm]
theorem zim (vals:List Int):∀ n l,l∈lexF vals n→l.length=n∧∀ x∈l,x∈vals
 | 0,l,h=>by simp [lexF] at h;subst h;simp
 | n+1,l,h=>by
  simp only [lexF,List.mem_flatMap,List.mem_map] at h
  obtain ⟨v,hv,l',hl',rfl⟩:=h
  obtain ⟨h1,h2⟩:=zim vals n l' hl'
  exact ⟨by simp [h1],fun x hx=>by rcases List.mem_cons.1 hx with rfl | hx;exact hv;exact h2 x hx⟩

theorem mapPushE {α γ:Type} (g:α→γ) (F:List γ→α→Option Unit) (N:Nat) (P:α→Prop) (hF:∀ acc x,acc.length < N→P x→F acc x=some ()):∀ (ys:List α) (i:Nat) (acc:List γ),(∀ y∈ys,P y)→acc.length+ys.length≤N →
 foldE (β:=List γ) (ρ:=List γ) (fun acc _ x=>(F acc x).bind fun _=>some (.inl (acc ++ [g x]))) (fun acc=>some acc) acc i ys=some (acc ++ ys.map g)
 | [],_,acc,_,_=>by simp [foldE]
 | y :: ys,i,acc,hP,h=>by
  simp only [List.length_cons] at h
  rw [foldE,hF acc y (by omega) (hP y (List.mem_cons_self ..))]
  simp only [Option.bind_some]
  rw [mapPushE g F N P hF ys (i+1) _ (fun z hz=>hP z (List.mem_cons_of_mem _ hz)) (by simp;omega)]
  simp
theorem zkc {m n:Nat} (hm:m≤5) (hn:n≤4):m ^ n≤625 :=
 Nat.le_trans (Nat.pow_le_pow_left hm n) (Nat.le_trans (Nat.pow_le_pow_right (by omega) hn) (by decide))
theorem zps {α:Type} (F:List α→Int→Option (List α)) (g:Int→List α) (N:Nat) (hF:∀ acc v,acc.length+(g v).length≤N→F acc v=some (acc ++ g v)):∀ (n:Nat) (lo:Int) (acc:List α),acc.length+((upto lo n).flatMap g).length≤N →
 foldN F lo n acc=some (acc ++ (upto lo n).flatMap g)
 | 0,_,acc,_=>by simp [foldN,upto]
 | n+1,lo,acc,h=>by
  simp only [upto,List.flatMap_cons,List.length_append] at h
  rw [foldN,hF acc lo (by omega)]
  simp only [Option.bind_some]
  rw [zps F g N hF n (lo+1) _ (by simp only [List.length_append];omega)]
  simp [upto]

theorem znz (m:Nat) (hm:m≤5) (most:Int) (hmo:most=(m:Int) - 2):∀ n:Nat,n≤4→fixN zcc (n+1) ((n:Int),most,())=some (lexF (upto (-1) m) n)
 | 0,_=>by
  show zcc _ _=_
  unfold zcc zel
  simp [eqI,lexF]
 | n+1,hn=>by
  have ih:=znz m hm most hmo n (by omega)
  show zel (fun a b=>fixN zcc (n+1) (a,b,())) ((n+1:Nat):Int) most=_
  unfold zel
  have h0:¬ (((n+1:Nat):Int)=0):=by omega
  have h1:subI ((n+1:Nat):Int) 1=(n:Int):=by rw [zea (by omega) (by omega)];omega
  have hlen:(lexF (upto (-1) m) n).length≤625:=by rw [zgh,zgq];exact zkc hm (by omega)
  simp only [eqI,h0,decide_false,cond_false,h1,ih,Option.bind_some]
  generalize hys:lexF (upto (-1) m) n=ys at *
  have hmem:∀ y∈ys,y.length≤4:=fun y hy=>by have:=(zim _ _ y (hys ▸ hy)).1;omega
  rw [zjx (fun (b:List (List Int)) i=>(b,i)) (fun acc v=>(room 0 0).bind fun _=>(iter (ρ:=(List (List Int))) (fun s_15:(List (List Int)) × Int =>
              cond (ltI s_15.2 (ys.length:Int))
               ((at? ys s_15.2).bind fun e_27 =>
                (room ([v].length+e_27.length) 8).bind fun _ =>
                 (room (s_15.1.length + [[v] ++ e_27].length) 24).bind fun _ =>
                  some (.inl (s_15.1 ++ [[v] ++ e_27],addI s_15.2 1)))
               (some (.inr s_15.1))) (acc,0))) id m (-1) [] (fun b v hv1 hv2=>?_) (fun b=>?_)]
  ·rw [zps _ (fun v=>ys.map (v :: ·)) 4000 (fun acc v hl=>?_) m (-1) [] ?_]
   ·subst hys;simp [lexF]
   ·have h3:=zgh (upto (-1) m) (n+1)
    rw [lexF,hys,zgq] at h3
    have h4:=zkc hm hn
    simp only [List.length_nil,Nat.zero_add]
    omega
   ·have hl':acc.length+ys.length≤4000:=by simpa using hl
    rw [zak (by omega) (by omega)]
    simp only [Option.bind_some]
    rw [zfm ys (fun (b:List (List Int)) i=>(b,i)) (fun acc _ e=>((room ([v].length+e.length) 8).bind fun _=>room (acc.length+1) 24).bind fun _=>some (.inl (acc ++ [v :: e]))) (fun acc=>some acc) (fun b i x hx=>?_) (fun b=>?_) acc,
     mapPushE (v :: ·) (fun acc e=>(room ([v].length+e.length) 8).bind fun _=>room (acc.length+1) 24) 4000 (fun e=>e.length≤4) (fun acc x h1 h2=>?_) ys 0 acc hmem hl']
    ·simp only [List.length_singleton]
     rw [zak (by omega) (by omega),Option.bind_some,zak (by omega) (by omega)]
    ·have hlt:=(List.getElem?_eq_some_iff.1 hx).1
     simp only [zck,hx,Option.bind_some,ltI,zaf]
     rw [if_pos (by omega),zam (by omega) (by omega)]
     simp only [List.length_singleton,List.cons_append,List.nil_append]
     cases room (1+x.length) 8 with
     | none=>rfl
     | some _ =>
      simp only [Option.bind_some]
      cases room (b.length+1) 24 <;> rfl
    ·simp [ltI]
  ·simp only [leI,zaf]
   rw [if_pos (by omega),zam (by omega) (by omega),zak (by omega) (by omega)]
   simp only [Option.bind_some]
   generalize iter _ _=r
   cases r <;> rfl
  ·simp only [leI,zaf]
   rw [if_neg (by omega)]
   rfl
theorem l9Lists (m n:Nat) (hm:m≤5) (hn:n≤4) (a most:Int) (ha:a=n) (hmo:most=(m:Int) - 2):zdk a most=some (lexF (upto (-1) m) n):=by
 subst ha
 unfold zdk
 exact fixO_of zkn (znz m hm most hmo n hn)

theorem foldN_lex (vals:List Int) (F:List (List Int)→Int→Option (List (List Int))) (hF:∀ k v,k < 4→F (lexF vals k) v=some (lexF vals (k+1))):∀ (n:Nat) (lo:Int) (k:Nat),k+n≤4→foldN F lo n (lexF vals k)=some (lexF vals (k+n))
 | 0,_,k,_=>rfl
 | n+1,lo,k,h=>by
  rw [foldN,hF k lo (by omega)]
  simp only [Option.bind_some]
  rw [foldN_lex vals F hF n (lo+1) (k+1) (by omega)]
  congr 2
  omega
theorem flatE {α γ:Type} (g:α→List γ) (F:List γ→α→Option (List γ)) (N:Nat) (P:α→Prop) (hF:∀ acc x,acc.length+(g x).length≤N→P x→F acc x=some (acc ++ g x)):∀ (ys:List α) (i:Nat) (acc:List γ),(∀ y∈ys,P y)→acc.length+(ys.flatMap g).length≤N →
 foldE (β:=List γ) (ρ:=List γ) (fun acc _ x=>(F acc x).map .inl) (fun acc=>some acc) acc i ys=some (acc ++ ys.flatMap g)
 | [],_,acc,_,_=>by simp [foldE]
 | y :: ys,i,acc,hP,h=>by
  simp only [List.flatMap_cons,List.length_append] at h
  rw [foldE,hF acc y (by omega) (hP y (List.mem_cons_self ..))]
  simp only [Option.map_some]
  rw [flatE g F N P hF ys (i+1) _ (fun z hz=>hP z (List.mem_cons_of_mem _ hz)) (by simp only [List.length_append];omega)]
  simp
theorem lists_in (m:Nat) (hm:m≤5) (bound:Int) (hb:bound=(m:Int) - 1) (e:List Int) (he:e.length≤4) (acc:List (List Int)) (ha:acc.length+m≤4000) :
 iter (ρ:=(List (List Int))) (fun s_31:(List (List Int)) × Int =>
                 cond (ltI s_31.2 bound)
                  ((zaq e).bind fun y_47 =>
                   (room (y_47.length + [s_31.2].length) 8).bind fun _ =>
                    (room (s_31.1.length + [y_47 ++ [s_31.2]].length) 24).bind fun _ =>
                     some (.inl (s_31.1 ++ [y_47 ++ [s_31.2]],addI s_31.2 1)))
                  (some (.inr s_31.1))) (acc,(-1))=some (acc ++ (upto (-1) m).map fun x=>e ++ [x]):=by
 have hcl:zaq e=some e:=by
  unfold zaq zjd
  rw [zak (by omega) (by omega)]
  rfl
 rw [zjx (fun (b:List (List Int)) i=>(b,i)) (fun acc v=>(room (acc.length+1) 24).bind fun _=>some (acc ++ [e ++ [v]])) id m (-1) acc (fun b v hv1 hv2=>?_) (fun b=>?_),
  zpr (fun x=>e ++ [x]) (fun acc _=>room (acc.length+1) 24) 4000 (fun acc x hx=>zak (by omega) (by omega)) m (-1) acc ha]
 ·rfl
 ·simp only [ltI,zaf,hcl,Option.bind_some,List.length_singleton]
  rw [if_pos (by omega),zam (by omega) (by omega),zak (n:=e.length+1) (by omega) (by omega)]
  simp only [Option.bind_some]
  cases room (b.length+1) 24 <;> rfl
 ·simp only [ltI,zaf]
  rw [if_neg (by omega)]
  rfl

theorem lists (m n:Nat) (hm:m≤5) (hn:n≤4) (many bound:Int) (ha:many=n) (hb:bound=(m:Int) - 1):zfe many bound=some (lexF (upto (-1) m) n):=by
 unfold zfe
 rw [zjx (fun (b:List (List Int)) i=>(b,i)) (fun out v=>(iter (ρ:=(List (List Int))) (fun s_12:(List (List Int)) × Int =>
           cond (ltI s_12.2 (out.length:Int))
            ((at? out s_12.2).bind fun e_26 =>
             (iter (ρ:=(List (List Int))) (fun s_31:(List (List Int)) × Int =>
              cond (ltI s_31.2 bound)
               ((zaq e_26).bind fun y_47 =>
                (room (y_47.length + [s_31.2].length) 8).bind fun _ =>
                 (room (s_31.1.length + [y_47 ++ [s_31.2]].length) 24).bind fun _ =>
                  some (.inl (s_31.1 ++ [y_47 ++ [s_31.2]],addI s_31.2 1)))
               (some (.inr s_31.1))) (s_12.1,(-1))).bind fun r_54 =>
              some (.inl (r_54,addI s_12.2 1)))
            (some (.inr s_12.1))) ([],0))) id n 0 [[]] (fun b v hv1 hv2=>?_) (fun b=>?_)]
 ·have h0:=foldN_lex (upto (-1) m) (fun out v=>(iter (ρ:=(List (List Int))) (fun s_12:(List (List Int)) × Int =>
         cond (ltI s_12.2 (out.length:Int))
          ((at? out s_12.2).bind fun e_26 =>
           (iter (ρ:=(List (List Int))) (fun s_31:(List (List Int)) × Int =>
            cond (ltI s_31.2 bound)
             ((zaq e_26).bind fun y_47 =>
              (room (y_47.length + [s_31.2].length) 8).bind fun _ =>
               (room (s_31.1.length + [y_47 ++ [s_31.2]].length) 24).bind fun _ =>
                some (.inl (s_31.1 ++ [y_47 ++ [s_31.2]],addI s_31.2 1)))
             (some (.inr s_31.1))) (s_12.1,(-1))).bind fun r_54 =>
            some (.inl (r_54,addI s_12.2 1)))
          (some (.inr s_12.1))) ([],0))) (fun k v hk=>?_) n 0 0 (by omega)
  ·rw [show ([[]]:List (List Int))=lexF (upto (-1) m) 0 from rfl,h0]
   simp
  ·have hlen:(lexF (upto (-1) m) k).length≤625:=by rw [zgh,zgq];exact zkc hm (by omega)
   have hlen2:(lexF (upto (-1) m) (k+1)).length≤625:=by rw [zgh,zgq];exact zkc hm (by omega)
   rw [lexF_step] at hlen2 ⊢
   have hmem:∀ y∈lexF (upto (-1) m) k,y.length≤4:=fun y hy=>by have:=(zim _ _ y hy).1;omega
   generalize lexF (upto (-1) m) k=ys at *
   rw [zfm ys (fun (b:List (List Int)) i=>(b,i)) (fun acc _ e=>(iter (ρ:=(List (List Int))) (fun s_31:(List (List Int)) × Int =>
                 cond (ltI s_31.2 bound)
                  ((zaq e).bind fun y_47 =>
                   (room (y_47.length + [s_31.2].length) 8).bind fun _ =>
                    (room (s_31.1.length + [y_47 ++ [s_31.2]].length) 24).bind fun _ =>
                     some (.inl (s_31.1 ++ [y_47 ++ [s_31.2]],addI s_31.2 1)))
                  (some (.inr s_31.1))) (acc,(-1))).map .inl) (fun acc=>some acc) (fun b i x hx=>?_) (fun b=>?_) [],
    flatE (fun e=>(upto (-1) m).map fun x=>e ++ [x]) (fun acc e=>(iter (ρ:=(List (List Int))) (fun s_31:(List (List Int)) × Int =>
                cond (ltI s_31.2 bound)
                 ((zaq e).bind fun y_47 =>
                  (room (y_47.length + [s_31.2].length) 8).bind fun _ =>
                   (room (s_31.1.length + [y_47 ++ [s_31.2]].length) 24).bind fun _ =>
                    some (.inl (s_31.1 ++ [y_47 ++ [s_31.2]],addI s_31.2 1)))
                 (some (.inr s_31.1))) (acc,(-1)))) 4000 (fun e=>e.length≤4) (fun acc x h1 h2=>?_) ys 0 [] hmem (by unfold lexStep at hlen2;simp only [List.length_nil];omega)]
   ·rfl
   ·exact lists_in m hm bound hb x h2 acc (by simpa [zgq] using h1)
   ·have hlt:=(List.getElem?_eq_some_iff.1 hx).1
    simp only [zck,hx,Option.bind_some,ltI,zaf]
    rw [if_pos (by omega),zam (by omega) (by omega)]
    generalize iter _ _=r
    cases r <;> rfl
   ·simp [ltI]
 ·simp only [ltI,zaf]
  rw [if_pos (by omega),zam (by omega) (by omega)]
  generalize iter _ _=r
  cases r <;> rfl
 ·simp only [ltI,zaf]
  rw [if_neg (by omega)]
  rfl
def Tot {α:Type} (o:Option α) (Q:α→Prop):Prop:=∃ a,o=some a∧Q a
theorem Tot.ret {α:Type} {a:α} {Q:α→Prop} (h:Q a):Tot (some a) Q:=⟨a,rfl,h⟩
theorem Tot.bind {α β:Type} {o:Option α} {f:α→Option β} {P:α→Prop} {Q:β→Prop} (h:Tot o P) (hf:∀ a,P a→Tot (f a) Q):Tot (o.bind f) Q:=by
 obtain ⟨a,rfl,hP⟩:=h
 exact hf a hP
theorem Tot.mono {α:Type} {o:Option α} {P Q:α→Prop} (h:Tot o P) (hq:∀ a,P a→Q a):Tot o Q:=by
 obtain ⟨a,h1,h2⟩:=h
 exact ⟨a,h1,hq a h2⟩
theorem Tot.eq {α:Type} {o:Option α} {a:α} (h:Tot o (· = a)):o=some a:=by
 obtain ⟨b,h1,rfl⟩:=h
 exact h1
theorem Tot.of {α:Type} {o:Option α} {a:α} {Q:α→Prop} (h:o=some a) (hq:Q a):Tot o Q:=⟨a,h,hq⟩
theorem Tot.loop {σ ρ:Type} {step:σ→Option (σ ⊕ ρ)} {Q:ρ→Prop} (I:Nat→σ→Prop) (n:Nat) {s:σ} (h0:I 0 s)
 (h:∀ i s,I i s→i≤n→Tot (step s) (Sum.elim (fun s'=>i < n∧I (i+1) s') Q)):Tot (iter step s) Q:=by
 have key:∀ (k i:Nat) (s:σ),I i s→i+k=n→Tot (iter step s) Q:=by
  intro k
  induction k with
  | zero =>
   intro i s hI hk
   obtain ⟨o,ho,hq⟩:=h i s hI (by omega)
   cases o with
   | inl s'=>exact absurd hq.1 (by omega)
   | inr r=>exact ⟨r,zex ho,hq⟩
  | succ k ih =>
   intro i s hI hk
   obtain ⟨o,ho,hq⟩:=h i s hI (by omega)
   cases o with
   | inl s'=>rw [zin ho];exact ih (i+1) s' hq.2 (by omega)
   | inr r=>exact ⟨r,zex ho,hq⟩
 exact key n 0 s h0 (by omega)
theorem zhm {α γ σ:Type} (S:List γ→Int→σ) (lo:Int) (xs:List α) (g:α→List γ) {acc:List γ} {step:σ→Option (σ ⊕ List γ)}
 (h:∀ (i:Nat) x b,xs[i]?=some x→b.length+(g x).length≤acc.length+(xs.flatMap g).length→step (S b (lo+i))=some (.inl (S (b ++ g x) (lo+i+1))))
 (he:∀ b,step (S b (lo+xs.length))=some (.inr b)):iter step (S acc lo)=some (acc ++ xs.flatMap g):=by
 have key:∀ (suf:List α) (i:Nat) (b:List γ),xs.drop i=suf→i+suf.length=xs.length→b.length+(suf.flatMap g).length=acc.length+(xs.flatMap g).length →
  iter step (S b (lo+i))=some (b ++ suf.flatMap g):=by
  intro suf
  induction suf with
  | nil =>
   intro i b _ hi _
   simp only [List.length_nil,Nat.add_zero] at hi
   subst hi
   rw [zex (he b)];simp
  | cons x suf ih =>
   intro i b hd hi hb
   have hx:xs[i]?=some x:=by
    have:=congrArg (fun l=>l[0]?) hd
    simpa using this
   have hd2:xs.drop (i+1)=suf:=by
    have:=congrArg List.tail hd
    simpa using this
   simp only [List.length_cons] at hi
   simp only [List.flatMap_cons,List.length_append] at hb
   rw [zin (h i x b hx (by omega))]
   have:=ih (i+1) (b ++ g x) hd2 (by omega) (by simp only [List.length_append];omega)
   rw [show lo+(i:Int)+1=lo+((i+1:Nat):Int) by omega,this]
   simp
 have:=key xs 0 acc rfl (by simp) rfl
 simpa using this
def nx (next:List Int) (c:Int):Int:=if c = -1 then -1 else next.getD c.toNat 0
def orb (next:List Int):Nat→Int→Int
 | 0,c=>c
 | k+1,c=>nx next (orb next k c)
def orbs (next:List Int) (c:Int) (m:Nat):List Int:=(List.range m).map fun k=>orb next k c
theorem zki (next:List Int) (c:Int):∀ a b,orb next (a+b) c=orb next a (orb next b c)
 | 0,b=>by simp [orb]
 | a+1,b=>by rw [show a+1+b=(a+b)+1 by omega,orb,zki next c a b,orb]
theorem zqn (next:List Int):∀ k,orb next k (-1) = -1
 | 0=>rfl
 | k+1=>by rw [orb,zqn next k];simp [nx]
def Cells (next:List Int):Prop:=∀ x∈next,-1≤x∧x < (next.length:Int)
theorem nx_in {next:List Int} (hC:Cells next) {c:Int} (h:-1≤c∧c < (next.length:Int)):-1≤nx next c∧nx next c < (next.length:Int):=by
 unfold nx
 split
 ·omega
 ·have hlt:c.toNat < next.length:=by omega
  have:=hC _ (List.getElem_mem hlt)
  simpa [List.getD,List.getElem?_eq_getElem hlt] using this
theorem orb_in {next:List Int} (hC:Cells next) {c:Int} (h:-1≤c∧c < (next.length:Int)):∀ k,-1≤orb next k c∧orb next k c < (next.length:Int)
 | 0=>h
 | k+1=>nx_in hC (orb_in hC h k)
theorem znr (next:List Int) (c:Int) (m:Nat):orbs next c (m+1)=orbs next c m ++ [orb next m c]:=by simp [orbs,List.range_succ]
theorem orbs_mem {next:List Int} {c x:Int} {m:Nat}:x∈orbs next c m ↔ ∃ k,k < m∧orb next k c=x:=by simp [orbs]
theorem fol_orb {next:List Int} (hC:Cells next) {c:Int} (hc:-1≤c∧c < (next.length:Int)):∀ (f m:Nat),Seen next (orbs next c m)→next.length+1≤f+m →
 ∃ m',fol next f (orb next m c) (orbs next c m)=.inl (orbs next c m')∧(orb next m' c = -1∨∃ k,k < m'∧orb next k c=orb next m' c)
 | 0,m,hS,hf=>by
  have:=hS.len
  simp only [orbs,List.length_map,List.length_range] at this
  omega
 | f+1,m,hS,hf=>by
  rw [fol]
  by_cases h1:orb next m c = -1
  ·exact ⟨m,by simp [h1],.inl h1⟩
  ·rw [if_neg h1]
   by_cases h2:orb next m c∈orbs next c m
   ·exact ⟨m,by simp [h2],.inr (orbs_mem.1 h2)⟩
   ·have h3:=orb_in hC hc m
    have h4:0≤orb next m c∧orb next m c < (next.length:Int):=by omega
    rw [if_neg h2,if_pos h4,← znr]
    have hn:next.getD (orb next m c).toNat 0=orb next (m+1) c:=by rw [orb,nx,if_neg h1]
    rw [hn]
    exact fol_orb hC hc f (m+1) (by rw [znr];exact hS.push h2 h4) (by omega)
theorem zrd {next:List Int} (hC:Cells next) {c:Int} (hc:-1≤c∧c < (next.length:Int)):∃ m,folL next c=orbs next c m∧(orb next m c = -1∨∃ k,k < m∧orb next k c=orb next m c):=by
 obtain ⟨m,h1,h2⟩:=fol_orb hC hc (next.length+1) 0 ⟨by simp [orbs],by simp [orbs]⟩ (by omega)
 refine ⟨m,?_,h2⟩
 unfold folL
 have:fol next (next.length+1) c []=.inl (orbs next c m):=by simpa [orbs,orb] using h1
 rw [this]
 rfl
theorem folL_mem {next:List Int} (hC:Cells next) {c:Int} (hc:-1≤c∧c < (next.length:Int)):∀ (k:Nat),orb next k c≠-1→orb next k c∈folL next c:=by
 obtain ⟨m,h1,h2⟩:=zrd hC hc
 rw [h1]
 intro k
 induction k using Nat.strongRecOn with
 | _ k ih =>
  intro hk
  by_cases hlt:k < m
  ·exact orbs_mem.2 ⟨k,hlt,rfl⟩
  ·have e:orb next k c=orb next (k - m) (orb next m c):=by rw [← zki];congr 1;omega
   rcases h2 with h2 | ⟨j,hj,h2⟩
   ·rw [e,h2,zqn] at hk
    exact absurd rfl hk
   ·rw [← h2,← zki] at e
    rw [e] at hk ⊢
    exact ih _ (by omega) hk
theorem orb_per {next:List Int} {i:Int} {p:Nat} (h:orb next p i=i):∀ q,orb next (q * p) i=i
 | 0=>by simp [orb]
 | q+1=>by rw [Nat.add_mul,Nat.one_mul,zki,h,orb_per h q]
def cyc (next:List Int):Bool:=(List.range next.length).any fun i=>decide ((i:Int)∈folL next (nx next i))
def lastI (xs:List Int):Int:=xs.getD (xs.length - 1) 0
theorem zrl {next:List Int} (hC:Cells next):(∀ i:Nat,i < next.length→folL next i≠[]∧nx next (lastI (folL next i)) = -1) ↔ cyc next=false:=by
 have hlast:∀ i:Nat,i < next.length→∃ m,folL next i=orbs next i (m+1)∧nx next (lastI (folL next i))=orb next (m+1) i∧(orb next (m+1) i = -1∨∃ k,k < m+1∧orb next k i=orb next (m+1) i):=by
  intro i hi
  obtain ⟨m,h1,h2⟩:=zrd hC (c:=i) (by omega)
  cases m with
  | zero =>
   rcases h2 with h2 | ⟨k,hk,_⟩
   ·simp only [orb] at h2;omega
   ·omega
  | succ m =>
   refine ⟨m,h1,?_,h2⟩
   rw [h1]
   have:lastI (orbs next i (m+1))=orb next m i:=by
    unfold lastI
    rw [znr]
    simp [List.getD]
   rw [this]
   rfl
 constructor
 ·intro hA
  unfold cyc
  rw [List.any_eq_false]
  intro i hi
  simp only [List.mem_range] at hi
  simp only [decide_eq_true_eq]
  intro hm
  obtain ⟨m,_,h2,_⟩:=hlast i hi
  have h3:=(hA i hi).2
  rw [h2] at h3
  obtain ⟨m',h4,_⟩:=zrd hC (nx_in hC (c:=i) (by omega))
  rw [h4,orbs_mem] at hm
  obtain ⟨k,_,hk⟩:=hm
  have h5:orb next (k+1) i=i:=by rw [zki];exact hk
  have h6:=orb_per h5 (m+1)
  have h7:orb next ((m+1) * (k+1)) i=orb next ((m+1) * k) (orb next (m+1) i):=by rw [← zki];congr 1
  rw [h7,h3,zqn] at h6
  omega
 ·intro hB i hi
  obtain ⟨m,h1,h2,h3⟩:=hlast i hi
  refine ⟨by rw [h1];simp [orbs],?_⟩
  rw [h2]
  rcases h3 with h3 | ⟨k,hk,h3⟩
  ·exact h3
  ·exfalso
   have hS:Seen next (orbs next i (m+1)):=h1 ▸ zif next i
   have hj:=hS.rng (orb next m i) (orbs_mem.2 ⟨m,by omega,rfl⟩)
   have hB':=(List.any_eq_false.1 hB) (orb next m i).toNat (by simp only [List.mem_range];omega)
   simp only [decide_eq_true_eq] at hB'
   rw [show ((orb next m i).toNat:Int)=orb next m i by omega] at hB'
   apply hB'
   have e1:nx next (orb next m i)=orb next k i:=h3.symm
   have e2:orb next m i=orb next (m - k) (orb next k i):=by rw [← zki];congr 1;omega
   rw [e1]
   have:=folL_mem hC (orb_in hC (c:=i) (by omega) k) (m - k) (by rw [← e2];omega)
   rw [← e2] at this
   exact this
theorem zkv {next:List Int} (hs:small next.length) (c:Int):small (folL next c).length:=Nat.le_trans (zre next c) hs
theorem impl_cyclic (h:THeap) (hs:small h.next.length) (hC:Cells h.next):zcj h=some (cyc h.next):=by
 unfold zcj
 have hs':=hs
 unfold small at hs'
 have key:Tot (iter (ρ:=(Bool) ⊕ (Unit)) (fun s_1:Int =>
  cond (ltI s_1 (h.next.length:Int))
   ((at? h.next s_1).bind fun e_12 =>
    (zdb h e_12).bind fun y_17 =>
     (zaj y_17 s_1).bind fun y_20 =>
      cond y_20
       (some (.inr (.inl true)))
       (some (.inl (addI s_1 1))))
   (some (.inr (.inr ())))) 0) (fun r=>Sum.elim (fun r=>some r) (fun _=>some false) r=some (cyc h.next)):=by
  refine Tot.loop (fun i s=>s=(i:Int)∧∀ j:Nat,j < i→¬ (j:Int)∈folL h.next (nx h.next j)) h.next.length ⟨rfl,fun j hj=>absurd hj (Nat.not_lt_zero _)⟩ fun i s hI hi=>?_
  obtain ⟨rfl,hI⟩:=hI
  simp only [ltI,zaf,zck]
  by_cases hlt:i < h.next.length
  ·have hn:nx h.next i=h.next[i]:=by unfold nx;rw [if_neg (by omega)];simp [List.getD,hlt]
   rw [if_pos (by omega),List.getElem?_eq_getElem hlt,zam (by omega) (by omega)]
   simp only [Option.bind_some,zip h hs,zgd _ _ (zkv hs _),← hn]
   by_cases hm:(i:Int)∈folL h.next (nx h.next i)
   ·simp only [hm,decide_true,cond_true]
    refine Tot.ret ?_
    simp only [Sum.elim_inr,Sum.elim_inl,Option.some.injEq]
    exact (List.any_eq_true.2 ⟨i,List.mem_range.2 hlt,by simpa using hm⟩).symm
   ·simp only [hm,decide_false,cond_false]
    refine Tot.ret ⟨hlt,by simp,fun j hj=>?_⟩
    by_cases hji:j=i
    ·subst hji;exact hm
    ·exact hI j (by omega)
  ·rw [if_neg (by omega)]
   refine Tot.ret ?_
   simp only [Sum.elim_inr,Option.some.injEq]
   refine (List.any_eq_false.2 fun j hj=>?_).symm
   have:=hI j (by have:=List.mem_range.1 hj;omega)
   simpa using this
 obtain ⟨r,h1,h2⟩:=key
 rw [h1]
 exact h2
theorem zms {xs:List Int} (h:xs≠[]) (hl:small xs.length):at? xs (subI (xs.length:Int) 1)=some (lastI xs):=by
 have:0 < xs.length:=List.length_pos_iff.2 h
 unfold small at hl
 rw [zea (by omega) (by omega)]
 unfold at? lastI
 rw [if_pos (by omega),show ((xs.length:Int) - 1).toNat=xs.length - 1 by omega]
 rw [List.getElem?_eq_getElem (by omega)]
 simp [List.getD,List.getElem?_eq_getElem (show xs.length - 1 < xs.length by omega)]
theorem zny {xs:List Int} (h:xs≠[]):lastI xs∈xs:=by
 have:0 < xs.length:=List.length_pos_iff.2 h
 unfold lastI
 simp [List.getD,List.getElem?_eq_getElem (show xs.length - 1 < xs.length by omega)]
theorem spec_acyclic (h:THeap) (hs:small h.next.length) (hC:Cells h.next):zeb h=some (!cyc h.next):=by
 unfold zeb
 have hs':=hs
 unfold small at hs'
 have key:Tot (iter (ρ:=(Unit) ⊕ (Unit)) (fun s_1:Int =>
  cond (ltI s_1 (h.next.length:Int))
   ((zcy h s_1).bind fun y_11 =>
    cond (eqI (y_11.length:Int) 0)
     (some (.inr (.inl ())))
     ((at? y_11 (subI (y_11.length:Int) 1)).bind fun e_15 =>
      (at? h.next e_15).bind fun e_20 =>
       cond (neI e_20 (-1))
        (some (.inr (.inl ())))
        (some (.inl (addI s_1 1)))))
   (some (.inr (.inr ())))) 0) (fun r=>Sum.elim (fun _=>some false) (fun _=>some true) r=some (!cyc h.next)):=by
  refine Tot.loop (fun i s=>s=(i:Int)∧∀ j:Nat,j < i→folL h.next j≠[]∧nx h.next (lastI (folL h.next j)) = -1) h.next.length ⟨rfl,fun j hj=>absurd hj (Nat.not_lt_zero _)⟩ fun i s hI hi=>?_
  obtain ⟨rfl,hI⟩:=hI
  simp only [ltI,zaf]
  by_cases hlt:i < h.next.length
  ·rw [if_pos (by omega),zam (by omega) (by omega)]
   simp only [Option.bind_some,zij h hs,eqI,neI,zaf,zdj]
   by_cases he:folL h.next i=[]
   ·rw [if_pos (by simp [he])]
    refine Tot.ret ?_
    simp only [Sum.elim_inr,Sum.elim_inl,Option.some.injEq]
    cases hc:cyc h.next with
    | true=>rfl
    | false=>exact absurd he ((zrl hC).2 hc i hlt).1
   ·have hpos:0 < (folL h.next i).length:=List.length_pos_iff.2 he
    rw [if_neg (by omega),zms he (zkv hs _)]
    simp only [Option.bind_some]
    have hr:=(zif h.next i).rng _ (zny he)
    have hn:at? h.next (lastI (folL h.next i))=some (nx h.next (lastI (folL h.next i))):=by
     rw [at_in hr,nx,if_neg (by omega)]
    rw [hn]
    simp only [Option.bind_some]
    by_cases hm:nx h.next (lastI (folL h.next i)) = -1
    ·rw [if_pos hm]
     refine Tot.ret ⟨hlt,by simp,fun j hj=>?_⟩
     by_cases hji:j=i
     ·subst hji;exact ⟨he,hm⟩
     ·exact hI j (by omega)
    ·rw [if_neg hm]
     refine Tot.ret ?_
     simp only [Sum.elim_inr,Sum.elim_inl,Option.some.injEq]
     cases hc:cyc h.next with
     | true=>rfl
     | false=>exact absurd ((zrl hC).2 hc i hlt).2 hm
  ·rw [if_neg (by omega)]
   refine Tot.ret ?_
   simp only [Sum.elim_inr,Option.some.injEq]
   rw [(zrl hC).1 fun j hj=>hI j (by omega)]
   rfl
 obtain ⟨r,h1,h2⟩:=key
 rw [h1]
 exact h2
theorem cells_of {h:THeap} (hc:cellsB h=true):Cells h.next:=by
 simp only [cellsB,Bool.and_eq_true,List.all_eq_true] at hc
 intro x hx
 have:=hc.2 x hx
 simp only [inH,decide_eq_true_eq] at this
 omega
theorem ordL_len (next vars:List Int):(ordL next vars).length≤next.length:=(ordSeen next vars [] ⟨by simp,by simp⟩).len
def ownPlaces (xs:List Int):Bool:=(List.range xs.length).all fun i=>decide (xs.getD i 0=(i:Int))
theorem own_loop (xs:List Int) (hl:small xs.length):Tot (iter (ρ:=(Unit) ⊕ (Unit)) (fun s_18:Int =>
                        cond (ltI s_18 (xs.length:Int))
                         ((at? xs s_18).bind fun e_29 =>
                          cond (neI e_29 s_18)
                           (some (.inr (.inl ())))
                           (some (.inl (addI s_18 1))))
                         (some (.inr (.inr ())))) 0) (fun r=>r=if ownPlaces xs then .inr () else .inl ()):=by
 unfold small at hl
 refine Tot.loop (fun i s=>s=(i:Int)∧∀ j:Nat,j < i→xs.getD j 0=(j:Int)) xs.length ⟨rfl,fun j hj=>absurd hj (Nat.not_lt_zero _)⟩ fun i s hI hi=>?_
 obtain ⟨rfl,hI⟩:=hI
 simp only [ltI,neI,zaf,zdj,zck]
 by_cases hlt:i < xs.length
 ·have hg:xs.getD i 0=xs[i]:=by simp [List.getD,hlt]
  rw [if_pos (by omega),List.getElem?_eq_getElem hlt,zam (by omega) (by omega)]
  simp only [Option.bind_some]
  by_cases hm:xs[i]=(i:Int)
  ·rw [if_pos hm]
   refine Tot.ret ⟨hlt,by simp,fun j hj=>?_⟩
   by_cases hji:j=i
   ·subst hji;rw [hg];exact hm
   ·exact hI j (by omega)
  ·rw [if_neg hm]
   refine Tot.ret ?_
   have:ownPlaces xs=false:=List.all_eq_false.2 ⟨i,List.mem_range.2 hlt,by simp only [hg,hm];simp⟩
   simp only [Sum.elim_inr,this]
   rfl
 ·rw [if_neg (by omega)]
  refine Tot.ret ?_
  have:ownPlaces xs=true:=List.all_eq_true.2 fun j hj=>by
   have:=hI j (by have:=List.mem_range.1 hj;omega)
   simpa using this
  simp only [Sum.elim_inr,this]
  rfl
def isHeapB (vars:Int) (h:THeap):Bool:=decide (1≤vars∧vars≤4) && decide ((h.vars.length:Int)=vars) && decide ((h.next.length:Int)≤6) && cellsB h && !cyc h.next && (ownPlaces (ordL h.next h.vars) && decide ((ordL h.next h.vars).length=h.next.length))
theorem spec_isHeap (vars:Int) (h:THeap):zef vars h=some (isHeapB vars h):=by
 unfold zef isHeapB
 rw [zcq]
 simp only [Option.bind_some,zaf]
 by_cases h1:1≤vars∧vars≤4
 ·rw [if_pos h1]
  simp only [h1,and_self,decide_true,Bool.true_and,neI,zdj,ltI,zaf]
  by_cases h2:(h.vars.length:Int)=vars
  ·rw [if_pos h2]
   simp only [h2,decide_true,Bool.true_and]
   by_cases h3:(h.next.length:Int)≤6
   ·rw [if_neg (by omega)]
    have hv:small h.vars.length:=by unfold small;omega
    have hs:small h.next.length:=by unfold small;omega
    simp only [h3,decide_true,Bool.true_and,l7Cells h hv hs,Option.bind_some]
    cases hc:cellsB h with
    | false=>rfl
    | true =>
     simp only [cond_true,Bool.true_and,spec_acyclic h hs (cells_of hc),Option.bind_some]
     cases hy:cyc h.next with
     | true=>rfl
     | false =>
      simp only [Bool.not_false,cond_true,Bool.true_and,l7Order h hv hs,Option.bind_some]
      have hol:=ordL_len h.next h.vars
      obtain ⟨r,hr1,hr2⟩:=own_loop (ordL h.next h.vars) (by unfold small;omega)
      simp only [neI,ltI,zaf,zdj] at hr1
      rw [hr1,hr2]
      cases ho:ownPlaces (ordL h.next h.vars) with
      | false=>simp
      | true=>simp [eqI];omega
   ·rw [if_pos (by omega)]
    simp [h3]
  ·rw [if_neg h2]
   simp [h2]
 ·rw [if_neg h1]
  simp [h1]
theorem impl_isHeap (vars:Int) (h:THeap):zek vars h=some (isHeapB vars h):=by
 unfold zek isHeapB
 rw [zft]
 simp only [Option.bind_some,zaf]
 by_cases h1:1≤vars∧vars≤4
 ·rw [if_pos h1]
  simp only [h1,and_self,decide_true,Bool.true_and,neI,zdj,ltI,zaf]
  by_cases h2:(h.vars.length:Int)=vars
  ·rw [if_pos h2]
   simp only [h2,decide_true,Bool.true_and]
   by_cases h3:(h.next.length:Int)≤6
   ·rw [if_neg (by omega)]
    have hv:small h.vars.length:=by unfold small;omega
    have hs:small h.next.length:=by unfold small;omega
    simp only [h3,decide_true,Bool.true_and,areCells h (by unfold small;simp only [List.length_append];omega) hv hs,Option.bind_some]
    cases hc:cellsB h with
    | false=>rfl
    | true =>
     simp only [cond_true,Bool.true_and,impl_cyclic h hs (cells_of hc),Option.bind_some]
     cases hy:cyc h.next with
     | true=>rfl
     | false =>
      simp only [Bool.not_false,cond_false,Bool.true_and,met h hv hs,Option.bind_some]
      have hol:=ordL_len h.next h.vars
      obtain ⟨r,hr1,hr2⟩:=own_loop (ordL h.next h.vars) (by unfold small;omega)
      simp only [neI,ltI,zaf,zdj] at hr1
      rw [hr1,hr2]
      cases ho:ownPlaces (ordL h.next h.vars) with
      | false=>simp
      | true=>simp [eqI];omega
   ·rw [if_pos (by omega)]
    simp [h3]
  ·rw [if_neg h2]
   simp [h2]
 ·rw [if_neg h1]
  simp [h1]

def inn (vars:Int) (a:List Int) (bs:List (List Int)):List THeap:=bs.flatMap fun b=>if isHeapB vars ⟨a,b⟩ then [⟨a,b⟩] else []
def ofCells (vars c:Nat):List THeap:=(lexF (upto (-1) (c+1)) vars).flatMap fun a=>inn vars a (lexF (upto (-1) (c+1)) c)
def shF (vars cells:Nat):List THeap:=(List.range (cells+1)).flatMap (ofCells vars)
theorem zis {α β:Type} (xs:List α) (f:α→List β) (N:Nat) (h:∀ x∈xs,(f x).length≤N):(xs.flatMap f).length≤xs.length * N:=by
 induction xs with
 | nil=>simp
 | cons x xs ih =>
  have h1:=h x (List.mem_cons_self ..)
  have h2:=ih fun y hy=>h y (List.mem_cons_of_mem _ hy)
  rw [List.flatMap_cons,List.length_append,List.length_cons,Nat.add_mul]
  omega
theorem inn_len (vars:Int) (a:List Int) (bs:List (List Int)):(inn vars a bs).length≤bs.length:=by
 have:=zis bs (fun b=>if isHeapB vars ⟨a,b⟩ then [(⟨a,b⟩:THeap)] else []) 1 fun x _=>by
  by_cases h:isHeapB vars ⟨a,x⟩=true <;> simp [h]
 simpa [inn] using this
theorem ofCells_len (vars c:Nat) (hv:vars≤4) (hc:c≤3):(ofCells vars c).length≤400000:=by
 have h1:(lexF (upto (-1) (c+1)) vars).length≤625:=by rw [zgh,zgq];exact zkc (by omega) hv
 have h2:(lexF (upto (-1) (c+1)) c).length≤625:=by rw [zgh,zgq];exact zkc (by omega) (by omega)
 have h3:=zis (lexF (upto (-1) (c+1)) vars) (fun a=>inn vars a (lexF (upto (-1) (c+1)) c)) 625 fun x _=>Nat.le_trans (inn_len _ _ _) h2
 have h4:(lexF (upto (-1) (c+1)) vars).length * 625≤625 * 625:=Nat.mul_le_mul_right _ h1
 exact Nat.le_trans h3 (Nat.le_trans h4 (by decide))
theorem shF_len (vars cells:Nat) (hv:vars≤4) (hc:cells≤3):(shF vars cells).length≤1600000:=by
 have h:=zis (List.range (cells+1)) (ofCells vars) 400000 fun x hx=>ofCells_len vars x hv (by have:=List.mem_range.1 hx;omega)
 simp only [List.length_range] at h
 exact Nat.le_trans h (by omega)
theorem zop (xs:List Int) (h:small xs.length):zaq xs=some xs:=by
 unfold zaq zjd
 rw [zak h (by omega)]
 rfl
theorem zne (v c:Nat) (hv:1≤v∧v≤4) (hc:c≤3):zcd v c=some (shF v c):=by
 unfold zcd
 rw [zcq,zcq]
 simp only [Option.bind_some,zaf]
 rw [if_pos (by omega),if_pos (by omega)]
 have key:=zhm (fun (b:List THeap) i=>(b,i)) 0 (List.range (c+1)) (ofCells v) (acc:=[]) (step:=fun s_9:(List THeap) × Int =>
             cond (leI s_9.2 c)
              ((zdk v (subI s_9.2 1)).bind fun y_20 =>
               (zdk s_9.2 (subI s_9.2 1)).bind fun y_23 =>
                (iter (ρ:=(List THeap)) (fun s_26:(List THeap) × Int =>
                 cond (ltI s_26.2 (y_20.length:Int))
                  ((iter (ρ:=(List THeap)) (fun s_40:(List THeap) × Int =>
                   cond (ltI s_40.2 (y_23.length:Int))
                    ((at? y_20 s_26.2).bind fun e_55 =>
                     (at? y_23 s_40.2).bind fun e_60 =>
                      (zef v (⟨e_55,e_60⟩:THeap)).bind fun y_66 =>
                       cond y_66
                        ((zet (⟨e_55,e_60⟩:THeap)).bind fun y_70 =>
                         (room (s_40.1.length + [y_70].length) 48).bind fun _ =>
                          some (.inl (s_40.1 ++ [y_70],addI s_40.2 1)))
                        (some (.inl (s_40.1,addI s_40.2 1))))
                    (some (.inr s_40.1))) (s_26.1,0)).bind fun r_75 =>
                   some (.inl (r_75,addI s_26.2 1)))
                  (some (.inr s_26.1))) (s_9.1,0)).bind fun r_86 =>
                 some (.inl (r_86,addI s_9.2 1)))
              (some (.inr s_9.1))) (fun i x b hx hb=>?_) (fun b=>?_)
 ·rw [key]
  simp [shF]
 ·obtain ⟨hi,rfl⟩:i < c+1∧i=x:=by
   have:=List.getElem?_eq_some_iff.1 hx
   simpa using this
  have hsh:=shF_len v c hv.2 hc
  unfold shF at hsh
  simp only [List.length_nil,Nat.zero_add] at hb
  have hb:=Nat.le_trans hb hsh
  simp only [leI,zaf]
  rw [if_pos (by omega),l9Lists (i+1) v (by omega) hv.2 _ _ rfl (by rw [zea (by omega) (by omega)];omega),l9Lists (i+1) i (by omega) (by omega) _ _ (by omega) (by rw [zea (by omega) (by omega)];omega)]
  simp only [Option.bind_some]
  have hA:=zgh (upto (-1) (i+1)) v
  have hB:=zgh (upto (-1) (i+1)) i
  rw [zgq] at hA hB
  have hA':(i+1) ^ v≤625:=zkc (by omega) hv.2
  have hB':(i+1) ^ i≤625:=zkc (by omega) (by omega)
  have hMa:∀ y∈lexF (upto (-1) (i+1)) v,y.length≤4:=fun y hy=>by have:=(zim _ _ y hy).1;omega
  have hMb:∀ y∈lexF (upto (-1) (i+1)) i,y.length≤4:=fun y hy=>by have:=(zim _ _ y hy).1;omega
  unfold ofCells at hb ⊢
  generalize hu:lexF (upto (-1) (i+1)) v=az at *
  generalize hw:lexF (upto (-1) (i+1)) i=bs at *
  have k2:=zhm (fun (b:List THeap) i=>(b,i)) 0 az (fun a=>inn v a bs) (acc:=b) (step:=fun s_26:(List THeap) × Int =>
                      cond (ltI s_26.2 (az.length:Int))
                       ((iter (ρ:=(List THeap)) (fun s_40:(List THeap) × Int =>
                        cond (ltI s_40.2 (bs.length:Int))
                         ((at? az s_26.2).bind fun e_55 =>
                          (at? bs s_40.2).bind fun e_60 =>
                           (zef v (⟨e_55,e_60⟩:THeap)).bind fun y_66 =>
                            cond y_66
                             ((zet (⟨e_55,e_60⟩:THeap)).bind fun y_70 =>
                              (room (s_40.1.length + [y_70].length) 48).bind fun _ =>
                               some (.inl (s_40.1 ++ [y_70],addI s_40.2 1)))
                             (some (.inl (s_40.1,addI s_40.2 1))))
                         (some (.inr s_40.1))) (s_26.1,0)).bind fun r_75 =>
                        some (.inl (r_75,addI s_26.2 1)))
                       (some (.inr s_26.1))) (fun j a b' hj hb'=>?_) (fun b'=>?_)
  ·rw [k2]
   simp only [Option.bind_some]
   rw [zam (by omega) (by omega)]
  ·have hjl:=(List.getElem?_eq_some_iff.1 hj).1
   simp only [ltI,zaf]
   rw [if_pos (by omega)]
   have k3:=zhm (fun (b:List THeap) i=>(b,i)) 0 bs (fun b=>if isHeapB v ⟨a,b⟩ then [(⟨a,b⟩:THeap)] else []) (acc:=b') (step:=fun s_40:(List THeap) × Int =>
                           if s_40.2 < (bs.length:Int) then
                            ((at? az (0+(j:Int))).bind fun e_55 =>
                             (at? bs s_40.2).bind fun e_60 =>
                              (zef v (⟨e_55,e_60⟩:THeap)).bind fun y_66 =>
                               cond y_66
                                ((zet (⟨e_55,e_60⟩:THeap)).bind fun y_70 =>
                                 (room (s_40.1.length + [y_70].length) 48).bind fun _ =>
                                  some (.inl (s_40.1 ++ [y_70],addI s_40.2 1)))
                                (some (.inl (s_40.1,addI s_40.2 1))))
                            else (some (.inr s_40.1))) (fun q e b'' hq hb''=>?_) (fun b''=>?_)
   ·rw [k3]
    simp only [Option.bind_some]
    rw [zam (by omega) (by omega)]
    rfl
   ·have hql:=(List.getElem?_eq_some_iff.1 hq).1
    have ha:=hMa a (List.mem_of_getElem? hj)
    have he:=hMb e (List.mem_of_getElem? hq)
    simp only [Int.zero_add,zck,hj,hq,Option.bind_some,spec_isHeap]
    rw [if_pos (by omega),zam (by omega) (by omega)]
    have hb3:b''.length+(if isHeapB v ⟨a,e⟩ then [(⟨a,e⟩:THeap)] else []).length≤b'.length+(inn v a bs).length:=hb''
    have hb4:b'.length+(inn v a bs).length≤b.length+(az.flatMap fun a=>inn v a bs).length:=hb'
    cases hh:isHeapB v ⟨a,e⟩ with
    | false=>simp
    | true =>
     simp only [hh,if_true,List.length_singleton] at hb3
     unfold zet
     simp only [cond_true,if_true,List.length_nil,Nat.zero_add,List.length_singleton]
     rw [zak (by omega) (by omega),Option.bind_some,zak (by omega) (by omega),Option.bind_some,Option.bind_some,zak (by omega) (by omega)]
     rfl
   ·rw [if_neg (by omega)]
  ·simp [ltI]
 ·simp only [leI,zaf,List.length_range]
  rw [if_neg (by omega)]
theorem impl_own (h:THeap) (hv:small h.vars.length) (hs:small h.next.length):zda h=some h:=by
 unfold zda
 rw [zop _ hv,Option.bind_some,zop _ hs]
 rfl
theorem zof (v c:Nat) (hv:1≤v∧v≤4) (hc:c≤3):zci v c=some (shF v c):=by
 unfold zci
 rw [zft,zft]
 simp only [Option.bind_some,zaf]
 rw [if_pos (by omega),if_pos (by omega),zam (a:=(c:Int)) (b:=1) (by omega) (by omega)]
 have key:=zhm (fun (b:List THeap) i=>(b,i)) 0 (List.range (c+1)) (ofCells v) (acc:=[]) (step:=fun s_9:(List THeap) × Int =>
             cond (ltI s_9.2 ((c:Int)+1))
              ((zfe v s_9.2).bind fun y_20 =>
               (iter (ρ:=(List THeap)) (fun s_23:(List THeap) × Int =>
                cond (ltI s_23.2 (y_20.length:Int))
                 ((at? y_20 s_23.2).bind fun e_38 =>
                  (zfe s_9.2 s_9.2).bind fun y_43 =>
                   (iter (ρ:=(List THeap)) (fun s_46:(List THeap) × Int =>
                    cond (ltI s_46.2 (y_43.length:Int))
                     ((at? y_43 s_46.2).bind fun e_65 =>
                      (zek v (⟨e_38,e_65⟩:THeap)).bind fun y_71 =>
                       cond y_71
                        ((zda (⟨e_38,e_65⟩:THeap)).bind fun y_75 =>
                         (room (s_46.1.length + [y_75].length) 48).bind fun _ =>
                          some (.inl (s_46.1 ++ [y_75],addI s_46.2 1)))
                        (some (.inl (s_46.1,addI s_46.2 1))))
                     (some (.inr s_46.1))) (s_23.1,0)).bind fun r_80 =>
                    some (.inl (r_80,addI s_23.2 1)))
                 (some (.inr s_23.1))) (s_9.1,0)).bind fun r_92 =>
                some (.inl (r_92,addI s_9.2 1)))
              (some (.inr s_9.1))) (fun i x b hx hb=>?_) (fun b=>?_)
 ·rw [key]
  simp [shF]
 ·obtain ⟨hi,rfl⟩:i < c+1∧i=x:=by
   have:=List.getElem?_eq_some_iff.1 hx
   simpa using this
  have hsh:=shF_len v c hv.2 hc
  unfold shF at hsh
  simp only [List.length_nil,Nat.zero_add] at hb
  have hb:=Nat.le_trans hb hsh
  simp only [ltI,zaf]
  rw [if_pos (by omega),lists (i+1) v (by omega) hv.2 _ _ rfl (by omega),lists (i+1) i (by omega) (by omega) _ _ (by omega) (by omega)]
  simp only [Option.bind_some]
  have hA:=zgh (upto (-1) (i+1)) v
  have hB:=zgh (upto (-1) (i+1)) i
  rw [zgq] at hA hB
  have hA':(i+1) ^ v≤625:=zkc (by omega) hv.2
  have hB':(i+1) ^ i≤625:=zkc (by omega) (by omega)
  have hMa:∀ y∈lexF (upto (-1) (i+1)) v,y.length≤4:=fun y hy=>by have:=(zim _ _ y hy).1;omega
  have hMb:∀ y∈lexF (upto (-1) (i+1)) i,y.length≤4:=fun y hy=>by have:=(zim _ _ y hy).1;omega
  unfold ofCells at hb ⊢
  generalize hu:lexF (upto (-1) (i+1)) v=az at *
  generalize hw:lexF (upto (-1) (i+1)) i=bs at *
  have k2:=zhm (fun (b:List THeap) i=>(b,i)) 0 az (fun a=>inn v a bs) (acc:=b) (step:=fun s_23:(List THeap) × Int =>
                    if s_23.2 < (az.length:Int) then
                     ((at? az s_23.2).bind fun e_38 =>
                      (iter (ρ:=(List THeap)) (fun s_46:(List THeap) × Int =>
                       if s_46.2 < (bs.length:Int) then
                        ((at? bs s_46.2).bind fun e_65 =>
                         (zek v (⟨e_38,e_65⟩:THeap)).bind fun y_71 =>
                          cond y_71
                           ((zda (⟨e_38,e_65⟩:THeap)).bind fun y_75 =>
                            (room (s_46.1.length + [y_75].length) 48).bind fun _ =>
                             some (.inl (s_46.1 ++ [y_75],addI s_46.2 1)))
                           (some (.inl (s_46.1,addI s_46.2 1))))
                        else (some (.inr s_46.1))) (s_23.1,0)).bind fun r_80 =>
                       some (.inl (r_80,addI s_23.2 1)))
                     else (some (.inr s_23.1))) (fun j a b' hj hb'=>?_) (fun b'=>?_)
  ·rw [k2]
   simp only [Option.bind_some]
   rw [zam (by omega) (by omega)]
  ·have hjl:=(List.getElem?_eq_some_iff.1 hj).1
   rw [if_pos (by omega)]
   simp only [Int.zero_add,zck,hj,Option.bind_some]
   have k3:=zhm (fun (b:List THeap) i=>(b,i)) 0 bs (fun b=>if isHeapB v ⟨a,b⟩ then [(⟨a,b⟩:THeap)] else []) (acc:=b') (step:=fun s_46:(List THeap) × Int =>
                             if s_46.2 < (bs.length:Int) then
                              ((at? bs s_46.2).bind fun e_65 =>
                               (zek v (⟨a,e_65⟩:THeap)).bind fun y_71 =>
                                cond y_71
                                 ((zda (⟨a,e_65⟩:THeap)).bind fun y_75 =>
                                  (room (s_46.1.length + [y_75].length) 48).bind fun _ =>
                                   some (.inl (s_46.1 ++ [y_75],addI s_46.2 1)))
                                 (some (.inl (s_46.1,addI s_46.2 1))))
                              else (some (.inr s_46.1))) (fun q e b'' hq hb''=>?_) (fun b''=>?_)
   ·rw [k3]
    simp only [Option.bind_some]
    rw [zam (by omega) (by omega)]
    rfl
   ·have hql:=(List.getElem?_eq_some_iff.1 hq).1
    have ha:=hMa a (List.mem_of_getElem? hj)
    have he:=hMb e (List.mem_of_getElem? hq)
    simp only [Int.zero_add,zck,hq,Option.bind_some,impl_isHeap]
    rw [if_pos (by omega),zam (by omega) (by omega)]
    have hb3:b''.length+(if isHeapB v ⟨a,e⟩ then [(⟨a,e⟩:THeap)] else []).length≤b'.length+(inn v a bs).length:=hb''
    have hb4:b'.length+(inn v a bs).length≤b.length+(az.flatMap fun a=>inn v a bs).length:=hb'
    cases hh:isHeapB v ⟨a,e⟩ with
    | false=>simp
    | true =>
     simp only [hh,if_true,List.length_singleton] at hb3
     rw [impl_own _ (by unfold small;simp only;omega) (by unfold small;simp only;omega)]
     simp only [cond_true,if_true,Option.bind_some,List.length_singleton]
     rw [zak (by omega) (by omega)]
     rfl
   ·rw [if_neg (by omega)]
  ·rw [if_neg (by omega)]
 ·simp only [ltI,zaf,List.length_range]
  rw [if_neg (by omega)]
def shL (v c:Int):List THeap:=if (1≤v∧v≤4)∧(0≤c∧c≤3) then shF v.toNat c.toNat else []
theorem shL_len (v c:Int):(shL v c).length≤1600000:=by
 unfold shL
 split
 ·exact shF_len _ _ (by omega) (by omega)
 ·simp
theorem spec_SH (v c:Int):zcd v c=some (shL v c):=by
 unfold shL
 split
 ·rename_i h
  have:=zne v.toNat c.toNat (by omega) (by omega)
  rwa [show (v.toNat:Int)=v by omega,show (c.toNat:Int)=c by omega] at this
 ·rename_i h
  unfold zcd
  rw [zcq,zcq]
  simp only [Option.bind_some,zaf]
  by_cases h1:1≤v∧v≤4
  ·rw [if_pos h1,if_neg (by omega)]
  ·rw [if_neg h1]
theorem impl_SH (v c:Int):zci v c=some (shL v c):=by
 unfold shL
 split
 ·rename_i h
  have:=zof v.toNat c.toNat (by omega) (by omega)
  rwa [show (v.toNat:Int)=v by omega,show (c.toNat:Int)=c by omega] at this
 ·rename_i h
  unfold zci
  rw [zft,zft]
  simp only [Option.bind_some,zaf]
  by_cases h1:1≤v∧v≤4
  ·rw [if_pos h1,if_neg (by omega)]
  ·rw [if_neg h1]
def tiny (h:THeap):Prop:=h.vars.length≤4∧h.next.length≤6
theorem shF_tiny (v c:Nat):∀ h∈shF v c,tiny h:=by
 intro h hm
 simp only [shF,ofCells,inn,List.mem_flatMap] at hm
 obtain ⟨_,_,a,_,b,_,hb⟩:=hm
 split at hb
 ·rename_i hh
  simp only [List.mem_singleton] at hb
  subst hb
  simp only [isHeapB,Bool.and_eq_true,decide_eq_true_eq] at hh
  unfold tiny
  simp only
  omega
 ·simp at hb
theorem zqk (v c:Int):∀ h∈shL v c,tiny h:=by
 unfold shL
 split
 ·exact shF_tiny _ _
 ·simp
theorem zfn {α:Type} {xs:List α} {i:Nat} (h:i < xs.length):xs.take (i+1)=xs.take i ++ [xs[i]]:=by simp
theorem Tot.flat {α γ σ:Type} (S:List γ→Int→σ) (lo:Int) (xs:List α) (g:α→List γ) {acc:List γ} {step:σ→Option (σ ⊕ List γ)} {s:σ} {Q:List γ→Prop} (hs:s=S acc lo) (hQ:Q (acc ++ xs.flatMap g))
 (h:∀ (i:Nat) x b,xs[i]?=some x→b.length+(g x).length≤acc.length+(xs.flatMap g).length→Tot (step (S b (lo+i))) (· = .inl (S (b ++ g x) (lo+i+1))))
 (he:∀ b,Tot (step (S b (lo+xs.length))) (· = .inr b)):Tot (iter step s) Q:=by
 subst hs
 exact Tot.of (zhm S lo xs g (fun i x b hx hb=>(h i x b hx hb).eq) fun b=>(he b).eq) hQ
def t3 (b:Bool):Int:=if b then 2 else 0
theorem l3Of_eq (b:Bool):zge b=some (t3 b):=by cases b <;> rfl
theorem zln (b:Bool):zdy b=some (t3 b):=by cases b <;> rfl
def nodeOf (h:THeap) (i:Nat):TNode:=⟨h.vars.map fun e=>t3 (decide (e=(i:Int))),h.vars.map fun e=>t3 (decide ((i:Int)∈folL h.next e)),t3 (decide (1 < ((posF (i:Int) 0 h.next).length:Int))),0⟩
def arrowsOf (h:THeap) (i:Nat):List Int:=(List.range h.next.length).map fun j:Nat=>t3 (decide (h.next.getD i 0=(j:Int)))
def strOf (h:THeap):TStructure :=
 if cellsB h then if h.next.length≤10 then if 1≤h.vars.length∧h.vars.length≤4 then ⟨(List.range h.next.length).map (nodeOf h),(List.range h.next.length).flatMap (arrowsOf h)⟩ else ⟨[],[]⟩ else ⟨[],[]⟩ else ⟨[],[]⟩
theorem arrowsOf_len (h:THeap) (i:Nat):(arrowsOf h i).length=h.next.length:=by simp [arrowsOf]
theorem zkl {α β:Type} (xs:List α) (f:α→List β) (n:Nat) (h:∀ x∈xs,(f x).length=n):(xs.flatMap f).length=xs.length * n:=by
 induction xs with
 | nil=>simp
 | cons x xs ih =>
  rw [List.flatMap_cons,List.length_append,h x (List.mem_cons_self ..),ih fun y hy=>h y (List.mem_cons_of_mem _ hy),List.length_cons,Nat.add_mul]
  omega
theorem zlx (h:THeap) (m:Nat):((List.range m).flatMap (arrowsOf h)).length=m * h.next.length:=by
 have:=zkl (List.range m) (arrowsOf h) h.next.length fun x _=>arrowsOf_len h x
 simpa using this
theorem zgz (h:THeap) (hv:small h.vars.length) (hs:small h.next.length):zco h=some (strOf h):=by
 unfold zco strOf
 simp only [l7Cells h hv hs,Option.bind_some,zcq]
 cases hc:cellsB h with
 | false=>rfl
 | true =>
  simp only [cond_true,if_true,ltI,zaf]
  by_cases h10:h.next.length≤10
  ·rw [if_neg (by omega),if_pos h10]
   by_cases h4:1≤h.vars.length∧h.vars.length≤4
   ·rw [if_pos (by omega),if_pos h4]
    refine Tot.eq (Tot.bind (P:=(· = ((List.range h.next.length).map (nodeOf h),(List.range h.next.length).flatMap (arrowsOf h)))) (Tot.loop (fun i s=>s=((i:Int),(List.range i).map (nodeOf h),(List.range i).flatMap (arrowsOf h))) h.next.length rfl fun i s hI hi=>?_) fun r hr=>by subst hr;exact Tot.ret rfl)
    subst hI
    by_cases hlt:i < h.next.length
    ·simp only [if_pos (show (i:Int) < h.next.length by omega),positions h.next i hs,l3Of_eq,Option.bind_some]
     refine Tot.bind (P:=(· = ((nodeOf h i).vars,(nodeOf h i).reach))) (Tot.loop (fun j s=>s=((j:Int),(h.vars.take j).map (fun e=>t3 (decide (e=(i:Int)))),(h.vars.take j).map (fun e=>t3 (decide ((i:Int)∈folL h.next e))))) h.vars.length (by simp) fun j s hJ hj=>?_) fun r hr=>?_
     ·subst hJ
      by_cases hjl:j < h.vars.length
      ·simp only [if_pos (show (j:Int) < h.vars.length by omega),zck,List.getElem?_eq_getElem hjl,Option.bind_some,zij h hs,l7Has _ _ (zkv hs _),List.length_map,List.length_take,List.length_singleton,eqI,l3Of_eq]
       rw [zak (by omega) (by omega),Option.bind_some,Option.bind_some,zam (by omega) (by omega)]
       exact Tot.ret ⟨hjl,by rw [zfn hjl];simp only [List.map_append,List.map_cons,List.map_nil,Int.natCast_add,Int.cast_ofNat_Int]⟩
      ·rw [if_neg (by simp only;omega)]
       have:j=h.vars.length:=by omega
       subst this
       exact Tot.ret (by simp [nodeOf])
     ·subst hr
      simp only [List.length_map,List.length_range,List.length_singleton]
      rw [zak (by omega) (by omega),Option.bind_some]
      have hal:=zlx h i
      have hal2:i * h.next.length≤10 * 10:=Nat.mul_le_mul (by omega) h10
      refine Tot.bind (P:=(· = (List.range (i+1)).flatMap (arrowsOf h))) (Tot.loop (fun j s=>s=((j:Int),(List.range i).flatMap (arrowsOf h) ++ (List.range j).map fun k:Nat=>t3 (decide (h.next.getD i 0=(k:Int))))) h.next.length (by simp) fun j s hJ hj=>?_) fun r hr=>?_
      ·subst hJ
       by_cases hjl:j < h.next.length
       ·have hg:h.next.getD i 0=h.next[i]:=by simp [List.getD,hlt]
        simp only [if_pos (show (j:Int) < h.next.length by omega),zck,List.getElem?_eq_getElem hlt,Option.bind_some,List.length_append,List.length_map,List.length_range,hal,List.length_singleton,eqI,l3Of_eq]
        rw [zak (by omega) (by omega),Option.bind_some,zam (by omega) (by omega)]
        exact Tot.ret ⟨hjl,by rw [List.range_succ,List.map_append,List.map_cons,List.map_nil,hg,List.append_assoc];rfl⟩
       ·rw [if_neg (by simp only;omega)]
        have:j=h.next.length:=by omega
        subst this
        exact Tot.ret (by simp [List.range_succ,arrowsOf])
      ·subst hr
       rw [zam (by omega) (by omega)]
       exact Tot.ret ⟨hlt,by simp [List.range_succ,nodeOf]⟩
    ·rw [if_neg (by simp only;omega)]
     have:i=h.next.length:=by omega
     subst this
     exact Tot.ret rfl
   ·rw [if_neg (by omega),if_neg h4]
  ·rw [if_pos (by omega),if_neg h10]
theorem zmo (h:THeap) (hv:small h.vars.length) (hs:small h.next.length) (hvs:small (h.vars ++ h.next).length):zdh h=some (strOf h):=by
 unfold zdh strOf
 simp only [areCells h hvs hv hs,Option.bind_some,zft]
 cases hc:cellsB h with
 | false=>rfl
 | true =>
  simp only [cond_true,if_true,ltI,zaf]
  by_cases h10:h.next.length≤10
  ·rw [if_neg (by omega),if_pos h10]
   by_cases h4:1≤h.vars.length∧h.vars.length≤4
   ·rw [if_pos (by omega),if_pos h4]
    refine Tot.eq (Tot.bind (P:=(· = ((List.range h.next.length).map (nodeOf h),(List.range h.next.length).flatMap (arrowsOf h)))) (Tot.loop (fun i s=>s=((i:Int),(List.range i).map (nodeOf h),(List.range i).flatMap (arrowsOf h))) h.next.length rfl fun i s hI hi=>?_) fun r hr=>by subst hr;exact Tot.ret rfl)
    subst hI
    by_cases hlt:i < h.next.length
    ·simp only [if_pos (show (i:Int) < h.next.length by omega),positions_eq,positions h.next i hs,zln,Option.bind_some]
     refine Tot.bind (P:=(· = ((nodeOf h i).vars,(nodeOf h i).reach))) (Tot.loop (fun j s=>s=((j:Int),(h.vars.take j).map (fun e=>t3 (decide (e=(i:Int)))),(h.vars.take j).map (fun e=>t3 (decide ((i:Int)∈folL h.next e))))) h.vars.length (by simp) fun j s hJ hj=>?_) fun r hr=>?_
     ·subst hJ
      by_cases hjl:j < h.vars.length
      ·simp only [if_pos (show (j:Int) < h.vars.length by omega),zck,List.getElem?_eq_getElem hjl,Option.bind_some,zip h hs,zgd _ _ (zkv hs _),List.length_map,List.length_take,List.length_singleton,eqI,zln]
       rw [zak (by omega) (by omega),Option.bind_some,Option.bind_some,zam (by omega) (by omega)]
       exact Tot.ret ⟨hjl,by rw [zfn hjl];simp only [List.map_append,List.map_cons,List.map_nil,Int.natCast_add,Int.cast_ofNat_Int]⟩
      ·rw [if_neg (by simp only;omega)]
       have:j=h.vars.length:=by omega
       subst this
       exact Tot.ret (by simp [nodeOf])
     ·subst hr
      simp only [List.length_map,List.length_range,List.length_singleton]
      rw [zak (by omega) (by omega),Option.bind_some]
      have hal:=zlx h i
      have hal2:i * h.next.length≤10 * 10:=Nat.mul_le_mul (by omega) h10
      refine Tot.bind (P:=(· = (List.range (i+1)).flatMap (arrowsOf h))) (Tot.loop (fun j s=>s=((j:Int),(List.range i).flatMap (arrowsOf h) ++ (List.range j).map fun k:Nat=>t3 (decide (h.next.getD i 0=(k:Int))))) h.next.length (by simp) fun j s hJ hj=>?_) fun r hr=>?_
      ·subst hJ
       by_cases hjl:j < h.next.length
       ·have hg:h.next.getD i 0=h.next[i]:=by simp [List.getD,hlt]
        simp only [if_pos (show (j:Int) < h.next.length by omega),zck,List.getElem?_eq_getElem hlt,Option.bind_some,List.length_append,List.length_map,List.length_range,hal,List.length_singleton,eqI,zln]
        rw [zak (by omega) (by omega),Option.bind_some,zam (by omega) (by omega)]
        exact Tot.ret ⟨hjl,by rw [List.range_succ,List.map_append,List.map_cons,List.map_nil,hg,List.append_assoc];rfl⟩
       ·rw [if_neg (by simp only;omega)]
        have:j=h.next.length:=by omega
        subst this
        exact Tot.ret (by simp [List.range_succ,arrowsOf])
      ·subst hr
       rw [zam (by omega) (by omega)]
       exact Tot.ret ⟨hlt,by simp [List.range_succ,nodeOf]⟩
    ·rw [if_neg (by simp only;omega)]
     have:i=h.next.length:=by omega
     subst this
     exact Tot.ret rfl
   ·rw [if_neg (by omega),if_neg h4]
  ·rw [if_pos (by omega),if_neg h10]
theorem strOf_len (h:THeap):(strOf h).nodes.length≤10:=by
 unfold strOf
 split
 ·split
  ·split
   ·simpa
   ·simp
  ·simp
 ·simp
def firstR {ρ υ:Type} (o:Option ρ) (u:υ):ρ ⊕ υ:=match o with | some r=>.inl r | none=>.inr u
theorem Tot.first {ρ υ:Type} {step:Int→Option (Int ⊕ (ρ ⊕ υ))} {Q:ρ ⊕ υ→Prop} (n:Nat) (F:Nat→Option ρ) (u:υ)
 (h:∀ i:Nat,i < n→Tot (step i) (· = (match F i with | none=>.inl ((i:Int)+1) | some r=>.inr (.inl r)))) (he:Tot (step n) (· = .inr (.inr u)))
 (hQ:Q (firstR ((List.range n).findSome? F) u)):Tot (iter step 0) Q:=by
 refine Tot.loop (fun i s=>s=(i:Int)∧∀ j,j < i→F j=none) n ⟨rfl,fun j hj=>absurd hj (Nat.not_lt_zero _)⟩ fun i s hI hi=>?_
 obtain ⟨rfl,hI⟩:=hI
 by_cases hlt:i < n
 ·refine (h i hlt).mono fun o ho=>?_
  subst ho
  cases hF:F i with
  | none =>
   refine ⟨hlt,rfl,fun j hj=>?_⟩
   by_cases hji:j=i
   ·subst hji;exact hF
   ·exact hI j (by omega)
  | some r =>
   have:(List.range n).findSome? F=some r:=by
    rw [List.findSome?_eq_some_iff]
    refine ⟨List.range i,i,(List.range' (i+1) (n - i - 1)),?_,hF,fun j hj=>hI j (List.mem_range.1 hj)⟩
    rw [List.range_eq_range',List.range_eq_range',← List.range'_succ,show n - i - 1+1=n - i by omega]
    have:=@List.range'_append 0 i (n - i) 1
    simp only [Nat.one_mul,Nat.zero_add] at this
    rw [this]
    congr 1
    omega
   rw [this] at hQ
   exact hQ
 ·have:i=n:=by omega
  subst this
  refine he.mono fun o ho=>?_
  subst ho
  have:(List.range i).findSome? F=none:=by
   rw [List.findSome?_eq_none_iff]
   exact fun j hj=>hI j (List.mem_range.1 hj)
  rw [this] at hQ
  exact hQ
theorem zmf {ρ:Type} (p:Nat→Bool) (r:ρ):∀ xs:List Nat,xs.findSome? (fun i=>if p i then none else some r)=if xs.all p then none else some r
 | []=>rfl
 | x :: xs=>by
  rw [List.findSome?_cons,zmf p r xs]
  cases h:p x <;> simp [h]
theorem Tot.all {ρ υ:Type} {step:Int→Option (Int ⊕ (ρ ⊕ υ))} {Q:ρ ⊕ υ→Prop} (n:Nat) (p:Nat→Bool) (r:ρ) (u:υ)
 (h:∀ i:Nat,i < n→Tot (step i) (· = (if p i then .inl ((i:Int)+1) else .inr (.inl r)))) (he:Tot (step n) (· = .inr (.inr u)))
 (hQ:Q (if (List.range n).all p then .inr u else .inl r)):Tot (iter step 0) Q:=by
 refine Tot.first n (fun i=>if p i then none else some r) u (fun i hi=>?_) he ?_
 ·refine (h i hi).mono fun o ho=>?_
  rw [ho]
  cases p i <;> rfl
 ·rw [zmf]
  cases h:(List.range n).all p <;> simpa [h,firstR] using hQ

def wB (a b:Int):Bool:=decide (0≤a∧a≤2) && (decide (0≤b∧b≤2) && (decide (b=1) || decide (a=b)))
theorem zgf (a b:Int):zbl a b=some (wB a b):=by
 unfold zbl zbc wB
 simp only [zcq,Option.bind_some,zaf,eqI]
 by_cases h1:0≤a∧a≤2
 ·rw [if_pos h1]
  by_cases h2:0≤b∧b≤2
  ·rw [if_pos h2]
   by_cases h3:b=1
   ·simp [h1,h3]
   ·simp [h1,h2,h3]
  ·rw [if_neg h2];simp [h2]
 ·rw [if_neg h1];simp [h1]
theorem zio (a b:Int):zat a b=some (wB a b):=by rw [zod,zgf]
def listW (a b:List Int):Bool:=decide (a.length=b.length) && (List.range a.length).all fun i=>wB (a.getD i 0) (b.getD i 0)
theorem ziq {α:Type} {xs:List α} {i:Nat} (h:i < xs.length) (d:α):at? xs (i:Int)=some (xs.getD i d):=by
 rw [zck,List.getElem?_eq_getElem h];simp [List.getD,h]
theorem zlp (a b:List Int) (ha:small a.length):zdw a b=some (listW a b):=by
 unfold small at ha
 unfold zdw listW
 simp only [neI,zdj]
 by_cases h:a.length=b.length
 ·rw [if_pos (by omega)]
  simp only [h,decide_true,Bool.true_and]
  refine Tot.eq (Tot.bind (P:=(· = if (List.range a.length).all (fun i=>wB (a.getD i 0) (b.getD i 0)) then .inr () else .inl ())) (Tot.all a.length (fun i=>wB (a.getD i 0) (b.getD i 0)) () () (fun i hi=>?_) ?_ (by simp)) fun r hr=>?_)
  ·rw [← h]
   simp only [ltI,zaf,ziq hi 0,ziq (show i < b.length by omega) 0,Option.bind_some,zgf]
   rw [if_pos (by omega),zam (by omega) (by omega)]
   cases wB (a.getD i 0) (b.getD i 0) <;> exact Tot.ret rfl
  ·rw [← h]
   simp only [ltI,zaf]
   rw [if_neg (by omega)]
   exact Tot.ret rfl
  ·subst hr
   rw [h]
   cases (List.range b.length).all (fun i=>wB (a.getD i 0) (b.getD i 0)) <;> exact Tot.ret rfl
 ·rw [if_neg (by omega)]
  simp [h]
theorem zkd (a b:List Int) (ha:small a.length):zay a b (fun x0 x1=>zat x0 x1)=some (listW a b):=by
 rw [← zlp a b ha,zod]
 rfl
def zN:TNode:=⟨[],[],0,0⟩
def nodeW (x y:TNode):Bool:=listW x.vars y.vars && (listW x.reach y.reach && (wB x.shared y.shared && wB x.many y.many))
def okN (x:TNode):Prop:=small x.vars.length∧small x.reach.length
theorem spec_node (x y:TNode) (hx:okN x):zfi x y=some (nodeW x y):=by
 unfold zfi nodeW
 rw [zlp _ _ hx.1,zlp _ _ hx.2,zgf,zgf]
 cases listW x.vars y.vars <;> cases listW x.reach y.reach <;> cases wB x.shared y.shared <;> rfl
theorem impl_node (x y:TNode) (hx:okN x):zct x y=some (nodeW x y):=by
 unfold zct nodeW
 rw [zkd _ _ hx.1,zkd _ _ hx.2,zio,zio]
 cases listW x.vars y.vars <;> cases listW x.reach y.reach <;> cases wB x.shared y.shared <;> rfl
def nextV (s:TStructure) (i j:Int):Int :=
 if 0≤i∧i≤(s.nodes.length:Int) - 1 then if 0≤j∧j≤(s.nodes.length:Int) - 1 then if s.next.length=s.nodes.length * s.nodes.length then s.next.getD (i * s.nodes.length+j).toNat 0 else 1 else 1 else 1
theorem sq_small {n:Nat} (h:small n):n * n≤16000000000000:=Nat.le_trans (Nat.mul_le_mul h h) (by decide)
theorem place_in {n:Nat} {i j:Int} (hi:0≤i∧i≤(n:Int) - 1) (hj:0≤j∧j≤(n:Int) - 1):0≤i * n∧i * n+j < ((n * n:Nat):Int):=by
 have h1:i * n≤((n:Int) - 1) * n:=Int.mul_le_mul_of_nonneg_right hi.2 (by omega)
 have h2:0≤i * (n:Int):=Int.mul_nonneg hi.1 (by omega)
 rw [Int.sub_mul,Int.one_mul] at h1
 have h3:((n * n:Nat):Int)=(n:Int) * n:=by simp
 omega
theorem zhh (s:TStructure) (i j:Int) (hs:small s.nodes.length):zbo s i j=some (nextV s i j):=by
 unfold zbo nextV
 have hq:=sq_small hs
 have hs':=hs
 unfold small at hs'
 rw [zcq,zcq,zea (by omega) (by omega)]
 have h3:((s.nodes.length * s.nodes.length:Nat):Int)=(s.nodes.length:Int) * s.nodes.length:=by simp
 rw [znv (by omega) (by omega)]
 simp only [Option.bind_some,zaf,neI,zdj]
 by_cases hi:0≤i∧i≤(s.nodes.length:Int) - 1
 ·rw [if_pos hi,if_pos hi]
  by_cases hj:0≤j∧j≤(s.nodes.length:Int) - 1
  ·rw [if_pos hj,if_pos hj]
   by_cases hn:s.next.length=s.nodes.length * s.nodes.length
   ·obtain ⟨p1,p2⟩:=place_in hi hj
    rw [if_pos (by omega),if_pos hn,znv (by omega) (by omega),zam (by omega) (by omega),at_in (by omega)]
    rfl
   ·rw [if_neg (by omega),if_neg hn]
  ·rw [if_neg hj,if_neg hj]
 ·rw [if_neg hi,if_neg hi]
theorem zog (s:TStructure) (i j:Int) (hs:small s.nodes.length):zbg s i j=some (nextV s i j):=by
 rw [← zhh s i j hs]
 unfold zbg zbo zaw
 simp only [zft,zcq,Option.bind_some]
def roundB (s t:TStructure) (to:List Int) (j:Nat):Bool :=
 wB (nextV s ((to.length:Int) - 1) j) (nextV t (lastI to) (to.getD j 0)) && (wB (nextV s j ((to.length:Int) - 1)) (nextV t (to.getD j 0) (lastI to)) && !(decide (j+1 < to.length) && (decide (to.getD j 0=lastI to) && !decide ((t.nodes.getD (lastI to).toNat zN).many=1))))
def fitB (s t:TStructure) (to:List Int):Bool:=nodeW (s.nodes.getD (to.length - 1) zN) (t.nodes.getD (lastI to).toNat zN) && (List.range to.length).all (roundB s t to)
def okS (s:TStructure):Prop:=small s.nodes.length∧∀ n∈s.nodes,okN n
theorem at_in' {α:Type} {xs:List α} {c:Int} (h:0≤c∧c < (xs.length:Int)) (d:α):at? xs c=some (xs.getD c.toNat d):=by
 unfold at?
 rw [if_pos h.1]
 have:c.toNat < xs.length:=by omega
 simp [List.getD,List.getElem?_eq_getElem this]
theorem okS_at {s:TStructure} (h:okS s) (i:Nat):okN (s.nodes.getD i zN):=by
 by_cases hi:i < s.nodes.length
 ·have:=h.2 _ (List.getElem_mem hi)
  simpa [List.getD,List.getElem?_eq_getElem hi] using this
 ·have:s.nodes.getD i zN=zN:=by simp [List.getD,List.getElem?_eq_none (Nat.le_of_not_lt hi)]
  rw [this]
  unfold okN small zN
  simp
theorem spec_fits (s t:TStructure) (to:List Int) (hs:okS s) (ht:small t.nodes.length) (h0:to≠[]) (hl:to.length≤s.nodes.length) (hr:∀ x∈to,0≤x∧x < (t.nodes.length:Int)):zdx s t to=some (fitB s t to):=by
 unfold zdx fitB
 have hpos:0 < to.length:=List.length_pos_iff.2 h0
 have hs1:=hs.1
 have hsl:small to.length:=Nat.le_trans hl hs1
 have hsl':=hsl
 unfold small at hsl' ht hs1
 have hx:=hr _ (zny h0)
 rw [zms h0 hsl,zea (by omega) (by omega)]
 simp only [Option.bind_some,at_in' hx zN]
 have h1:at? s.nodes ((to.length:Int) - 1)=some (s.nodes.getD (to.length - 1) zN):=by
  rw [at_in' (by omega) zN,show ((to.length:Int) - 1).toNat=to.length - 1 by omega]
 simp only [h1,Option.bind_some,spec_node _ _ (okS_at hs _)]
 cases hn:nodeW (s.nodes.getD (to.length - 1) zN) (t.nodes.getD (lastI to).toNat zN) with
 | false=>rfl
 | true =>
  simp only [cond_true,Bool.true_and]
  refine Tot.eq (Tot.bind (P:=(· = if (List.range to.length).all (roundB s t to) then .inr () else .inl ())) (Tot.all to.length (roundB s t to) () () (fun i hi=>?_) ?_ rfl) fun r hr=>?_)
  ·simp only [leI,ltI,eqI,neI,zaf,zdj,ziq hi 0,Option.bind_some,zgf,zhh s _ _ hs.1,zhh t _ _ ht]
   rw [if_pos (by omega),zam (by omega) (by omega)]
   unfold roundB
   cases wB (nextV s ((to.length:Int) - 1) i) (nextV t (lastI to) (to.getD i 0)) with
   | false=>exact Tot.ret rfl
   | true =>
    cases wB (nextV s i ((to.length:Int) - 1)) (nextV t (to.getD i 0) (lastI to)) with
    | false=>exact Tot.ret rfl
    | true =>
     simp only [cond_true,Bool.true_and]
     by_cases h2:i+1 < to.length
     ·rw [if_pos (by omega)]
      by_cases h3:to.getD i 0=lastI to
      ·rw [if_pos h3]
       by_cases h4:(t.nodes.getD (lastI to).toNat zN).many=1
       ·rw [if_pos h4];exact Tot.ret (by rw [decide_eq_true h2,decide_eq_true h3,decide_eq_true h4];rfl)
       ·rw [if_neg h4];exact Tot.ret (by rw [decide_eq_true h2,decide_eq_true h3,decide_eq_false h4];rfl)
      ·rw [if_neg h3];exact Tot.ret (by rw [decide_eq_true h2,decide_eq_false h3];rfl)
     ·rw [if_neg (by omega)];exact Tot.ret (by rw [decide_eq_false h2];rfl)
  ·simp only [leI,zaf]
   rw [if_neg (by omega)]
   exact Tot.ret rfl
  ·subst hr
   cases (List.range to.length).all (roundB s t to) <;> exact Tot.ret rfl
theorem impl_fits (s t:TStructure) (to:List Int) (hs:okS s) (ht:small t.nodes.length) (h0:to≠[]) (hl:to.length≤s.nodes.length) (hr:∀ x∈to,0≤x∧x < (t.nodes.length:Int)):zeh s t to=some (fitB s t to):=by
 unfold zeh fitB zaw
 have hpos:0 < to.length:=List.length_pos_iff.2 h0
 have hs1:=hs.1
 have hsl:small to.length:=Nat.le_trans hl hs1
 have hsl':=hsl
 unfold small at hsl' ht hs1
 have hx:=hr _ (zny h0)
 rw [zms h0 hsl,zea (a:=(to.length:Int)) (by omega) (by omega),zea (a:=(t.nodes.length:Int)) (by omega) (by omega)]
 simp only [Option.bind_some,zft,at_in' hx zN,zaf]
 rw [if_pos (by omega)]
 have h1:at? s.nodes ((to.length:Int) - 1)=some (s.nodes.getD (to.length - 1) zN):=by
  rw [at_in' (by omega) zN,show ((to.length:Int) - 1).toNat=to.length - 1 by omega]
 have hA:at? to ((to.length:Int) - 1)=some (lastI to):=by
  have:=zms h0 hsl
  rwa [zea (by omega) (by omega)] at this
 simp only [h1,hA,Option.bind_some,impl_node _ _ (okS_at hs _)]
 cases hn:nodeW (s.nodes.getD (to.length - 1) zN) (t.nodes.getD (lastI to).toNat zN) with
 | false=>rfl
 | true =>
  simp only [cond_true,Bool.true_and]
  refine Tot.eq (Tot.bind (P:=(· = if (List.range to.length).all (roundB s t to) then .inr () else .inl ())) (Tot.all to.length (roundB s t to) () () (fun i hi=>?_) ?_ rfl) fun r hr=>?_)
  ·simp only [leI,ltI,eqI,neI,zaf,zdj,ziq hi 0,Option.bind_some,zio,zog s _ _ hs.1,zog t _ _ ht]
   rw [if_pos (by omega),zam (by omega) (by omega)]
   unfold roundB
   by_cases h2:i+1 < to.length
   ·rw [if_pos (by omega),decide_eq_true h2]
    by_cases h3:to.getD i 0=lastI to
    ·rw [if_pos h3,decide_eq_true h3,h3]
     simp only [at_in' hx zN,Option.bind_some]
     by_cases h4:(t.nodes.getD (lastI to).toNat zN).many=1
     ·rw [if_pos h4,decide_eq_true h4]
      cases wB (nextV s ((to.length:Int) - 1) i) (nextV t (lastI to) (lastI to)) <;> cases wB (nextV s i ((to.length:Int) - 1)) (nextV t (lastI to) (lastI to)) <;> exact Tot.ret rfl
     ·rw [if_neg h4,decide_eq_false h4]
      cases wB (nextV s ((to.length:Int) - 1) i) (nextV t (lastI to) (lastI to)) <;> cases wB (nextV s i ((to.length:Int) - 1)) (nextV t (lastI to) (lastI to)) <;> exact Tot.ret rfl
    ·rw [if_neg h3,decide_eq_false h3]
     cases wB (nextV s ((to.length:Int) - 1) i) (nextV t (lastI to) (to.getD i 0)) <;> cases wB (nextV s i ((to.length:Int) - 1)) (nextV t (to.getD i 0) (lastI to)) <;> exact Tot.ret rfl
   ·rw [if_neg (by omega),decide_eq_false h2]
    cases wB (nextV s ((to.length:Int) - 1) i) (nextV t (lastI to) (to.getD i 0)) <;> cases wB (nextV s i ((to.length:Int) - 1)) (nextV t (to.getD i 0) (lastI to)) <;> exact Tot.ret rfl
  ·simp only [ltI,zaf]
   rw [if_neg (by omega)]
   exact Tot.ret rfl
  ·subst hr
   cases (List.range to.length).all (roundB s t to) <;> exact Tot.ret rfl
def ontoB (t:TStructure) (to:List Int):Bool:=(List.range t.nodes.length).all fun j:Nat=>decide ((j:Int)∈to)
def rngT (t:TStructure) (to:List Int):Prop:=∀ x∈to,0≤x∧x < (t.nodes.length:Int)
theorem impl_onto (t:TStructure) (to:List Int) (ht:small t.nodes.length) (hl:small to.length):zga t to=some (ontoB t to):=by
 unfold small at ht
 unfold zga
 refine Tot.eq (Tot.bind (P:=(· = if ontoB t to then .inr () else .inl ())) (Tot.all t.nodes.length (fun j:Nat=>decide ((j:Int)∈to)) () () (fun i hi=>?_) ?_ rfl) fun r hr=>?_)
 ·simp only [ltI,zaf,zgd to _ hl,Option.bind_some]
  rw [if_pos (by omega),zam (by omega) (by omega)]
  by_cases h:(i:Int)∈to
  ·rw [if_pos h,if_pos (by simpa using h)];exact Tot.ret rfl
  ·rw [if_neg h,if_neg (by simpa using h)];exact Tot.ret rfl
 ·simp only [ltI,zaf]
  rw [if_neg (by omega)]
  exact Tot.ret rfl
 ·subst hr
  cases ontoB t to <;> exact Tot.ret rfl
theorem slc_take (to:List Int) (i:Nat) (hi:i < to.length) (hl:small to.length):slc to 0 (addI (i:Int) 1)=some (to.take (i+1)):=by
 unfold small at hl
 rw [zam (by omega) (by omega)]
 unfold slc
 rw [if_pos (by omega)]
 congr 1
theorem ne_take {to:List Int} {i:Nat} (hi:i < to.length):to.take (i+1)≠[]:=by
 intro h
 have:(to.take (i+1)).length=0:=by rw [h];rfl
 rw [List.length_take] at this
 omega
def upB (s t:TStructure) (to:List Int) (i:Nat):Bool:=decide (0≤to.getD i 0∧to.getD i 0≤(t.nodes.length:Int) - 1) && fitB s t (to.take (i+1))
def embB (s t:TStructure) (to:List Int):Bool:=decide (to.length=s.nodes.length) && ((List.range to.length).all (upB s t to) && ontoB t to)
theorem zmm (s t:TStructure) (to:List Int) (hs:okS s) (ht:small t.nodes.length) (hto:small to.length):zdf s t to=some (embB s t to):=by
 unfold zdf embB
 have hs1:=hs.1
 have ht':=ht
 have hto':=hto
 unfold small at hs1 ht' hto'
 simp only [neI,zdj]
 by_cases hl:to.length=s.nodes.length
 ·rw [if_pos (by omega),decide_eq_true hl,Bool.true_and]
  have key:Tot (iter (ρ:=(Unit) ⊕ (Unit)) (fun s_2:Int =>
   cond (ltI s_2 (to.length:Int))
    ((at? to s_2).bind fun e_15 =>
     (zav e_15 0 (subI (t.nodes.length:Int) 1)).bind fun y_20 =>
      cond y_20
       ((slc to 0 (addI s_2 1)).bind fun z_24 =>
        (zdx s t z_24).bind fun y_31 =>
         cond y_31
          (some (.inl (addI s_2 1)))
          (some (.inr (.inl ()))))
       (some (.inr (.inl ()))))
    (some (.inr (.inr ())))) 0) (fun r=>(r=.inr ()∧(List.range to.length).all (upB s t to)=true)∨(r=.inl ()∧(List.range to.length).all (upB s t to)=false)):=by
   refine Tot.loop (fun i q=>q=(i:Int)∧∀ j,j < i→upB s t to j=true) to.length ⟨rfl,fun j hj=>absurd hj (Nat.not_lt_zero _)⟩ fun i q hI hi=>?_
   obtain ⟨rfl,hI⟩:=hI
   simp only [ltI,zaf]
   by_cases hlt:i < to.length
   ·rw [if_pos (by omega)]
    simp only [ziq hlt 0,Option.bind_some,zcq,zea (a:=(t.nodes.length:Int)) (b:=1) (by omega) (by omega),zaf]
    have hno:upB s t to i=false→(List.range to.length).all (upB s t to)=false:=fun hu=>List.all_eq_false.2 ⟨i,List.mem_range.2 hlt,by simp [hu]⟩
    by_cases hr:0≤to.getD i 0∧to.getD i 0≤(t.nodes.length:Int) - 1
    ·rw [if_pos hr,slc_take to i hlt hto,Option.bind_some]
     have hall:∀ x∈to.take (i+1),0≤x∧x < (t.nodes.length:Int):=by
      intro x hx
      obtain ⟨j,hj,rfl⟩:=List.mem_iff_getElem.1 hx
      simp only [List.length_take] at hj
      rw [List.getElem_take]
      by_cases hji:j=i
      ·subst hji
       have:to.getD j 0=to[j]:=by simp [List.getD,hlt]
       omega
      ·have hu:=hI j (by omega)
       have:to.getD j 0=to[j]'(by omega):=by simp [List.getD,show j < to.length by omega]
       simp only [upB,Bool.and_eq_true,decide_eq_true_eq] at hu
       omega
     rw [spec_fits s t _ hs ht (ne_take hlt) (by simp;omega) hall,Option.bind_some,zam (by omega) (by omega)]
     have hu:upB s t to i=fitB s t (to.take (i+1)):=by unfold upB;rw [decide_eq_true hr,Bool.true_and]
     cases hf:fitB s t (to.take (i+1)) with
     | true =>
      refine Tot.ret ⟨hlt,by simp,fun j hj=>?_⟩
      by_cases hji:j=i
      ·subst hji;rw [hu,hf]
      ·exact hI j (by omega)
     | false=>exact Tot.ret (.inr ⟨rfl,hno (hu.trans hf)⟩)
    ·rw [if_neg hr]
     refine Tot.ret (.inr ⟨rfl,hno ?_⟩)
     unfold upB
     rw [decide_eq_false hr,Bool.false_and]
   ·rw [if_neg (by omega)]
    refine Tot.ret (.inl ⟨rfl,List.all_eq_true.2 fun j hj=>hI j (by have:=List.mem_range.1 hj;omega)⟩)
  obtain ⟨r,hr,h⟩:=key
  rw [hr,Option.bind_some]
  rcases h with ⟨rfl,h⟩|⟨rfl,h⟩
  ·rw [h,Bool.true_and]
   simp only [Sum.elim_inr]
   refine Tot.eq (Tot.bind (P:=(· = if ontoB t to then .inr () else .inl false)) (Tot.all t.nodes.length (fun j:Nat=>decide ((j:Int)∈to)) false () (fun i hi=>?_) ?_ rfl) fun r hr=>?_)
   ·simp only [ltI,zaf,l7Has to _ hto,Option.bind_some]
    rw [if_pos (by omega),zam (by omega) (by omega)]
    by_cases h:(i:Int)∈to
    ·rw [if_pos h,if_pos (by simpa using h)];exact Tot.ret rfl
    ·rw [if_neg h,if_neg (by simpa using h)];exact Tot.ret rfl
   ·simp only [ltI,zaf]
    rw [if_neg (by omega)]
    exact Tot.ret rfl
   ·subst hr
    cases ontoB t to <;> exact Tot.ret rfl
  ·rw [h];rfl
 ·rw [if_neg (by omega),decide_eq_false hl]
  rfl

def pre (s t:TStructure) (to:List Int):Prop:=to.length≤s.nodes.length∧rngT t to∧∀ i,i < to.length→fitB s t (to.take (i+1))=true
theorem pre_emb {s t:TStructure} {to:List Int} (h:pre s t to) (hl:to.length=s.nodes.length):embB s t to=ontoB t to:=by
 unfold embB
 rw [decide_eq_true hl,Bool.true_and]
 have:(List.range to.length).all (upB s t to)=true:=List.all_eq_true.2 fun i hi=>by
  have hi:=List.mem_range.1 hi
  unfold upB
  have hg:to.getD i 0=to[i]:=by simp [List.getD,hi]
  have:=h.2.1 _ (List.getElem_mem hi)
  rw [h.2.2 i hi,decide_eq_true (by omega),Bool.true_and]
 rw [this,Bool.true_and]
theorem pre_push {s t:TStructure} {to:List Int} (h:pre s t to) {j:Nat} (hj:j < t.nodes.length) (hl:to.length < s.nodes.length) (hf:fitB s t (to ++ [(j:Int)])=true):pre s t (to ++ [(j:Int)]):=by
 refine ⟨by simp;omega,fun x hx=>?_,fun i hi=>?_⟩
 ·rcases List.mem_append.1 hx with hx | hx
  ·exact h.2.1 x hx
  ·simp at hx;omega
 ·simp only [List.length_append,List.length_singleton] at hi
  by_cases he:i=to.length
  ·subst he
   rw [List.take_of_length_le (by simp)]
   exact hf
  ·rw [List.take_append_of_le_length (by omega)]
   exact h.2.2 i (by omega)
def tryJ (s t:TStructure) (F:List Int→List Int × Bool) (to:List Int) (j:Nat):Option (List Int × Bool) :=
 if fitB s t (to ++ [(j:Int)]) then (if (F (to ++ [(j:Int)])).2 then some ((F (to ++ [(j:Int)])).1,true) else none) else none
def findF (s t:TStructure):Nat→List Int→List Int × Bool
 | 0,to=>(to,ontoB t to)
 | k+1,to=>(match (List.range t.nodes.length).findSome? (tryJ s t (findF s t k) to) with | some r=>r | none=>([],false))
theorem findF_len (s t:TStructure):∀ (k:Nat) (to:List Int),(findF s t k to).1.length≤to.length+k
 | 0,to=>Nat.le_refl _
 | k+1,to=>by
  unfold findF
  split
  ·rename_i r hr
   obtain ⟨j,_,hj⟩:=List.exists_of_findSome?_eq_some hr
   unfold tryJ at hj
   split at hj
   ·split at hj
    ·cases hj
     have:=findF_len s t k (to ++ [(j:Int)])
     simp only [List.length_append,List.length_singleton] at this
     simp only
     omega
    ·cases hj
   ·cases hj
  ·simp
theorem spec_find (s t:TStructure) (hs:okS s) (ht:small t.nodes.length):∀ (k:Nat) (to:List Int),to.length+k=s.nodes.length→pre s t to→fixN zbv (k+1) (s,t,to,())=some (findF s t k to)
 | 0,to,hk,hp=>by
  rw [show fixN zbv (0+1) (s,t,to,())=zdp (fun a b c=>fixN zbv 0 (a,b,c,())) s t to from rfl]
  have hs1:=hs.1
  unfold zdp
  simp only [eqI,zaf]
  rw [if_pos (by omega),zmm s t to hs ht (by unfold small at *; omega),Option.bind_some,pre_emb hp (by omega)]
  rfl
 | k+1,to,hk,hp=>by
  rw [show fixN zbv (k+1+1) (s,t,to,())=zdp (fun a b c=>fixN zbv (k+1) (a,b,c,())) s t to from rfl]
  have hs1:=hs.1
  have ht':=ht
  unfold small at hs1 ht'
  unfold zdp
  simp only [eqI,zaf]
  rw [if_neg (by omega)]
  refine Tot.eq (Tot.bind (P:=(· = firstR ((List.range t.nodes.length).findSome? (tryJ s t (findF s t k) to)) ())) (Tot.first t.nodes.length (tryJ s t (findF s t k) to) () (fun i hi=>?_) ?_ rfl) fun r hr=>?_)
  ·simp only [ltI,zaf,List.length_nil,Nat.zero_add,List.length_singleton]
   rw [if_pos (by omega),zak (by omega) (by omega),Option.bind_some,zak (by omega) (by omega),Option.bind_some,zam (by omega) (by omega),
    spec_fits s t _ hs ht (by simp) (by simp;omega) (fun x hx=>by
     rcases List.mem_append.1 hx with hx | hx
     ·exact hp.2.1 x hx
     ·simp at hx;omega),Option.bind_some]
   unfold tryJ
   cases hf:fitB s t (to ++ [(i:Int)]) with
   | false=>exact Tot.ret rfl
   | true =>
    rw [cond_true,spec_find s t hs ht k _ (by simp;omega) (pre_push hp hi (by omega) hf),Option.bind_some]
    cases hb:(findF s t k (to ++ [(i:Int)])).2 <;> exact Tot.ret (by simp [hb])
  ·simp only [ltI,zaf]
   rw [if_neg (by omega)]
   exact Tot.ret rfl
  ·subst hr
   unfold findF
   cases (List.range t.nodes.length).findSome? (tryJ s t (findF s t k) to) <;> exact Tot.ret rfl
theorem impl_find (s t:TStructure) (hs:okS s) (ht:small t.nodes.length):∀ (k:Nat) (to:List Int),to.length+k=s.nodes.length→pre s t to→fixN zao (k+1) (to,s,t,())=some (findF s t k to)
 | 0,to,hk,hp=>by
  rw [show fixN zao (0+1) (to,s,t,())=zaz (fun a b c=>fixN zao 0 (a,b,c,())) to s t from rfl]
  have hs1:=hs.1
  unfold zaz
  simp only [eqI,zaf]
  rw [if_pos (by omega),impl_onto t to ht (by unfold small at *; omega),Option.bind_some]
  rfl
 | k+1,to,hk,hp=>by
  rw [show fixN zao (k+1+1) (to,s,t,())=zaz (fun a b c=>fixN zao (k+1) (a,b,c,())) to s t from rfl]
  have hs1:=hs.1
  have ht':=ht
  unfold small at hs1 ht'
  unfold zaz
  simp only [eqI,zaf]
  rw [if_neg (by omega)]
  refine Tot.eq (Tot.bind (P:=(· = firstR ((List.range t.nodes.length).findSome? (tryJ s t (findF s t k) to)) ())) (Tot.first t.nodes.length (tryJ s t (findF s t k) to) () (fun i hi=>?_) ?_ rfl) fun r hr=>?_)
  ·simp only [ltI,zaf,zop to (by unfold small;omega),Option.bind_some,List.length_singleton]
   rw [if_pos (by omega),zak (by omega) (by omega),Option.bind_some,zam (by omega) (by omega),
    impl_fits s t _ hs ht (by simp) (by simp;omega) (fun x hx=>by
     rcases List.mem_append.1 hx with hx | hx
     ·exact hp.2.1 x hx
     ·simp at hx;omega),Option.bind_some]
   unfold tryJ
   cases hf:fitB s t (to ++ [(i:Int)]) with
   | false=>exact Tot.ret rfl
   | true =>
    rw [cond_true,impl_find s t hs ht k _ (by simp;omega) (pre_push hp hi (by omega) hf),Option.bind_some]
    cases hb:(findF s t k (to ++ [(i:Int)])).2 <;> exact Tot.ret (by simp [hb])
  ·simp only [ltI,zaf]
   rw [if_neg (by omega)]
   exact Tot.ret rfl
  ·subst hr
   unfold findF
   cases (List.range t.nodes.length).findSome? (tryJ s t (findF s t k) to) <;> exact Tot.ret rfl
theorem pre_nil (s t:TStructure):pre s t []:=⟨Nat.zero_le _,by simp [rngT],by simp⟩
def findE' (s t:TStructure):List Int × Bool:=let r:=findF s t s.nodes.length [];if r.2 then (r.1,true) else ([],false)
theorem spec_findE (s t:TStructure) (hs:okS s) (ht:small t.nodes.length):zce s t=some (findE' s t):=by
 have h:zmc s t []=some (findF s t s.nodes.length []):=fixO_of zko (spec_find s t hs ht s.nodes.length [] (by simp) (pre_nil s t))
 have hl:=findF_len s t s.nodes.length []
 have hs1:=hs.1
 unfold small at hs1
 simp only [List.length_nil,Nat.zero_add] at hl
 unfold zce findE'
 rw [h,Option.bind_some]
 cases hb:(findF s t s.nodes.length []).2 with
 | false=>simp [hb]
 | true=>simp only [cond_true,List.length_nil,Nat.zero_add];rw [zak (by omega) (by omega)];simp [hb]
theorem impl_findE (s t:TStructure) (hs:okS s) (ht:small t.nodes.length):zdz s t=some (findE' s t):=by
 have h:zhb [] s t=some (findF s t s.nodes.length []):=fixO_of zht (impl_find s t hs ht s.nodes.length [] (by simp) (pre_nil s t))
 unfold zdz findE'
 rw [h,Option.bind_some]
 cases hb:(findF s t s.nodes.length []).2 <;> simp [hb]
def isEmb (s t:TStructure):Bool:=(findE' s t).2
theorem ziz (s t:TStructure) (hs:okS s) (ht:small t.nodes.length):zdr s t=some (isEmb s t):=by
 unfold zdr
 rw [spec_findE s t hs ht]
 rfl
theorem zoh (s t:TStructure) (hs:okS s) (ht:small t.nodes.length):zdt s t=some (isEmb s t):=by
 unfold zdt
 rw [impl_findE s t hs ht]
 rfl

theorem zqe (h:THeap):okS (strOf h):=by
 have h1:=strOf_len h
 refine ⟨by unfold small;omega,?_⟩
 unfold strOf
 split
 ·split
  ·split
   ·intro n hn
    simp only [List.mem_map,List.mem_range] at hn
    obtain ⟨i,hi,rfl⟩:=hn
    unfold okN small nodeOf
    simp only [List.length_map]
    omega
   ·simp
  ·simp
 ·simp
def okSet (set:List TStructure):Prop:=small set.length∧∀ t∈set,small t.nodes.length
def setDesc (set:List TStructure) (h:THeap):Bool:=set.any fun t=>isEmb (strOf h) t
theorem any_first {α:Type} (xs:List α) (p:α→Bool) (d:α):(List.range xs.length).findSome? (fun i=>if p (xs.getD i d) then some true else none)=if xs.any p then some true else none:=by
 have:∀ (ys:List α),(List.range ys.length).map (fun i=>ys.getD i d)=ys:=by
  intro ys
  apply List.ext_getElem
  ·simp
  ·intro i h1 h2
   simp [List.getD,h2]
 have h2:(List.range xs.length).findSome? (fun i=>if p (xs.getD i d) then some true else none)=((List.range xs.length).map (fun i=>xs.getD i d)).findSome? (fun x=>if p x then some true else none):=by
  rw [List.findSome?_map];rfl
 rw [h2,this]
 clear h2 this
 induction xs with
 | nil=>rfl
 | cons x xs ih=>rw [List.findSome?_cons,ih];cases h:p x <;> simp [h]
theorem zid (set:List TStructure) (h:THeap) (hset:okSet set) (hh:tiny h):zbf set h=some (setDesc set h):=by
 unfold zbf
 have hl:=hset.1
 unfold small at hl
 have hD:∀ t∈set,zbu t h=some (isEmb (strOf h) t):=fun t ht=>by
  unfold zbu
  rw [zgz h (by unfold small;have:=hh.1;omega) (by unfold small;have:=hh.2;omega),Option.bind_some,ziz _ _ (zqe h) (hset.2 t ht)]
  rfl
 refine Tot.eq (Tot.bind (P:=(· = if setDesc set h then .inl true else .inr ())) (Tot.first set.length (fun i=>if isEmb (strOf h) (set.getD i ⟨[],[]⟩) then some true else none) () (fun i hi=>?_) ?_ ?_) fun r hr=>?_)
 ·have hm:set.getD i ⟨[],[]⟩∈set:=by simp [List.getD,hi]
  simp only [ltI,zaf,ziq hi ⟨[],[]⟩,Option.bind_some,hD _ hm]
  rw [if_pos (by omega),zam (by omega) (by omega)]
  cases isEmb (strOf h) (set.getD i ⟨[],[]⟩) <;> exact Tot.ret rfl
 ·simp only [ltI,zaf]
  rw [if_neg (by omega)]
  exact Tot.ret rfl
 ·rw [any_first set (fun t=>isEmb (strOf h) t) ⟨[],[]⟩]
  unfold setDesc
  cases set.any (fun t=>isEmb (strOf h) t) <;> rfl
 ·subst hr
  cases setDesc set h <;> exact Tot.ret rfl
theorem zlv (set:List TStructure) (h:THeap) (hset:okSet set) (hh:tiny h):zcu set h=some (setDesc set h):=by
 unfold zcu zgn
 have h1:=hh.1
 have h2:=hh.2
 rw [zmo h (by unfold small;omega) (by unfold small;omega) (by unfold small;simp only [List.length_append];omega),Option.bind_some]
 have hc:=zmp set (fun x0=>zfr x0 (strOf h)) (fun t=>isEmb (strOf h) t) (fun t ht=>by
  unfold zfr
  rw [zoh _ _ (zqe h) (hset.2 t ht)]
  rfl) hset.1
 rw [hc]
 rfl
def shOf (v:Int) (set:List TStructure) (c:Int):List THeap:=(shL v c).filter (setDesc set)
theorem shOf_len (v:Int) (set:List TStructure) (c:Int):(shOf v set c).length≤1600000:=Nat.le_trans (List.length_filter_le _ _) (shL_len v c)
theorem zol {α:Type} (p:α→Bool) (xs:List α) {i:Nat} (h:i < xs.length):(xs.take (i+1)).filter p=(xs.take i).filter p ++ (if p xs[i] then [xs[i]] else []):=by
 rw [zfn h,List.filter_append]
 cases hp:p xs[i] <;> simp [hp]
theorem zgk (v:Int) (set:List TStructure) (c:Int) (hset:okSet set):zbk v set c=some (shOf v set c):=by
 unfold zbk
 rw [spec_SH,Option.bind_some]
 have hl:=shL_len v c
 have htn:=zqk v c
 unfold shOf
 generalize shL v c=xs at *
 refine Tot.eq (Tot.bind (P:=(·.1=xs.filter (setDesc set))) (Tot.loop (fun i s=>s=((xs.take i).filter (setDesc set),(i:Int),(i:Int))) xs.length (by simp) fun i s hI hi=>?_) fun r hr=>Tot.ret hr)
 subst hI
 simp only [ltI,zaf]
 by_cases hlt:i < xs.length
 ·have hfl:=List.length_filter_le (setDesc set) (xs.take i)
  simp only [List.length_take] at hfl
  rw [if_pos (by omega)]
  simp only [zck,List.getElem?_eq_getElem hlt,Option.bind_some,takeI,if_true,zid set _ hset (htn _ (List.getElem_mem hlt)),List.length_singleton]
  rw [zam (by omega) (by omega),zak (by omega) (by omega)]
  have hf:=zol (setDesc set) xs hlt
  cases hb:setDesc set xs[i] with
  | true =>
   rw [hb] at hf
   exact Tot.ret ⟨hlt,by simp only [hf,if_true,Option.bind_some];rfl⟩
  | false =>
   rw [hb] at hf
   exact Tot.ret ⟨hlt,by simp [hf]⟩
 ·rw [if_neg (by omega)]
  have:i=xs.length:=by omega
  subst this
  exact Tot.ret (by simp)
theorem zgm (v:Int) (set:List TStructure) (c:Int) (hset:okSet set):zbn v set c=some (shOf v set c):=by
 unfold zbn zgt
 rw [impl_SH,Option.bind_some]
 have hl:=shL_len v c
 have htn:=zqk v c
 unfold shOf
 generalize shL v c=xs at *
 refine Tot.eq (Tot.bind (P:=(· = xs.filter (setDesc set))) (Tot.bind (P:=(·.1=xs.filter (setDesc set))) (Tot.loop (fun i s=>s=((xs.take i).filter (setDesc set),(i:Int),(i:Int))) xs.length (by simp) fun i s hI hi=>?_) fun r hr=>Tot.ret hr) fun r hr=>Tot.ret hr)
 subst hI
 simp only [ltI,zaf]
 by_cases hlt:i < xs.length
 ·have hfl:=List.length_filter_le (setDesc set) (xs.take i)
  simp only [List.length_take] at hfl
  rw [if_pos (by omega)]
  simp only [zck,List.getElem?_eq_getElem hlt,Option.bind_some,takeI,if_true,zds,zlv set _ hset (htn _ (List.getElem_mem hlt)),List.length_singleton]
  rw [zam (by omega) (by omega),zak (by omega) (by omega)]
  have hf:=zol (setDesc set) xs hlt
  cases hb:setDesc set xs[i] with
  | true =>
   rw [hb] at hf
   exact Tot.ret ⟨hlt,by simp only [hf,if_true,Option.bind_some];rfl⟩
  | false =>
   rw [hb] at hf
   exact Tot.ret ⟨hlt,by simp [hf]⟩
 ·rw [if_neg (by omega)]
  have:i=xs.length:=by omega
  subst this
  exact Tot.ret (by simp)
open Wf (wf)
open Sm (sm lg)
theorem okSet_of {set:List TStructure} (h:sm set):okSet set:=⟨by have:=h.1;unfold small;omega,fun t ht=>by have:=(h.2 t ht).1.1;unfold small;omega⟩
open Wf (wf)
open Sm (sm lg)
theorem zhi (v:Int) (set:List TStructure) (c:Int) (hset:okSet set):zbw v set c=some ((shOf v set c).length:Int):=by
 unfold zbw
 rw [zgk v set c hset]
 rfl
theorem zho (v:Int) (set:List TStructure) (c:Int) (hset:okSet set):zbj v set c=some ((shOf v set c).length:Int):=by
 unfold zbj
 rw [zgm v set c hset]
 rfl
open Wf (wf)
open Sm (sm lg)
open Wf (wf)
open Sm (sm lg)
def truthsB (xs:List Int):Bool:=xs.all fun x=>decide (0≤x∧x≤2)
theorem all_range {α:Type} (xs:List α) (p:α→Bool) (d:α):(List.range xs.length).all (fun i=>p (xs.getD i d))=xs.all p:=by
 have h:(List.range xs.length).map (fun i=>xs.getD i d)=xs:=by
  apply List.ext_getElem
  ·simp
  ·intro i h1 h2
   simp [List.getD,h2]
 have h2:((List.range xs.length).map (fun i=>xs.getD i d)).all p=(List.range xs.length).all (fun i=>p (xs.getD i d)):=by rw [List.all_map];rfl
 rw [h] at h2
 exact h2.symm
theorem zkf (xs:List Int) (h:small xs.length):zcv xs=some (truthsB xs):=by
 unfold small at h
 unfold zcv
 refine Tot.eq (Tot.bind (P:=(· = if truthsB xs then .inr () else .inl ())) (Tot.all xs.length (fun i=>decide (0≤xs.getD i 0∧xs.getD i 0≤2)) () () (fun i hi=>?_) ?_ ?_) fun r hr=>?_)
 ·simp only [ltI,zaf,ziq hi 0,Option.bind_some,zbc,zcq]
  rw [if_pos (by omega),zam (by omega) (by omega)]
  by_cases hc:0≤xs.getD i 0∧xs.getD i 0≤2
  ·rw [if_pos hc,if_pos (by simpa using hc)];exact Tot.ret rfl
  ·rw [if_neg hc,if_neg (by simpa using hc)];exact Tot.ret rfl
 ·simp only [ltI,zaf]
  rw [if_neg (by omega)]
  exact Tot.ret rfl
 ·rw [all_range xs (fun x=>decide (0≤x∧x≤2)) 0]
  rfl
 ·subst hr
  cases truthsB xs <;> exact Tot.ret rfl
def nodeOkB (vars:Int) (x:TNode):Bool:=decide ((x.vars.length:Int)=vars) && (decide ((x.reach.length:Int)=vars) && (truthsB x.vars && (truthsB x.reach && (decide (0≤x.shared∧x.shared≤2) && decide (0≤x.many∧x.many≤1)))))
def isStrB (vars:Int) (s:TStructure):Bool:=decide (1≤vars∧vars≤4) && (decide (s.nodes.length≤10) && (decide (s.next.length=s.nodes.length * s.nodes.length) && (truthsB s.next && s.nodes.all (nodeOkB vars))))
structure shortS (s:TStructure):Prop where
 n:small s.nodes.length
 x:small s.next.length
 e:∀ y∈s.nodes,okN y
theorem shortS.ok {s:TStructure} (h:shortS s):okS s:=⟨h.n,h.e⟩
theorem zik {s:TStructure} (h:sm s):shortS s:=⟨by have:=h.1.1;unfold small;omega,by have:=h.2.1;unfold small;omega,fun y hy=>⟨by have:=(h.1.2 y hy).1.1;unfold small;omega,by have:=(h.1.2 y hy).2.1;unfold small;omega⟩⟩
theorem zha (vars:Int) (s:TStructure) (h:shortS s):zcp vars s=some (isStrB vars s):=by
 have hn:=h.n
 have hq:=sq_small hn
 unfold small at hn
 unfold zcp
 refine Tot.eq (Tot.bind (P:=(· = if s.nodes.all (nodeOkB vars) then .inr () else .inl ())) (Tot.all s.nodes.length (fun i=>nodeOkB vars (s.nodes.getD i zN)) () () (fun i hi=>?_) ?_ ?_) fun r hr=>?_)
 ·have hm:s.nodes.getD i zN∈s.nodes:=by simp [List.getD,hi]
  have ho:=h.e _ hm
  simp only [ltI,zaf,ziq hi zN,Option.bind_some]
  rw [if_pos (by omega),zam (by omega) (by omega)]
  generalize s.nodes.getD i zN=y at *
  simp only [neI,zdj,zkf _ ho.1,zkf _ ho.2,zbc,zcq,Option.bind_some,zaf]
  unfold nodeOkB
  by_cases h1:(y.vars.length:Int)=vars
  ·rw [if_pos h1,decide_eq_true h1]
   by_cases h2:(y.reach.length:Int)=vars
   ·rw [if_pos h2,decide_eq_true h2]
    cases truthsB y.vars <;> cases truthsB y.reach <;> try exact Tot.ret rfl
    simp only [cond_true,Bool.true_and]
    by_cases h3:0≤y.shared∧y.shared≤2
    ·rw [if_pos h3,decide_eq_true h3]
     by_cases h4:0≤y.many∧y.many≤1
     ·rw [if_pos h4,decide_eq_true h4];exact Tot.ret rfl
     ·rw [if_neg h4,decide_eq_false h4];exact Tot.ret rfl
    ·rw [if_neg h3,decide_eq_false h3];exact Tot.ret rfl
   ·rw [if_neg h2,decide_eq_false h2];exact Tot.ret rfl
  ·rw [if_neg h1,decide_eq_false h1];exact Tot.ret rfl
 ·simp only [ltI,zaf]
  rw [if_neg (by omega)]
  exact Tot.ret rfl
 ·rw [all_range s.nodes (nodeOkB vars) zN]
 ·subst hr
  have h3:((s.nodes.length * s.nodes.length:Nat):Int)=(s.nodes.length:Int) * s.nodes.length:=by simp
  unfold isStrB
  cases hall:s.nodes.all (nodeOkB vars) with
  | false=>simp only [Bool.and_false];exact Tot.ret rfl
  | true =>
   simp only [if_true,Sum.elim_inr,zcq,Option.bind_some,zaf,leI,eqI,zkf _ h.x,Bool.and_true]
   rw [znv (by omega) (by omega)]
   by_cases h1:1≤vars∧vars≤4
   ·rw [if_pos h1,decide_eq_true h1,Bool.true_and]
    by_cases h2:s.nodes.length≤10
    ·rw [if_pos (by omega),decide_eq_true h2,Bool.true_and]
     by_cases h4:s.next.length=s.nodes.length * s.nodes.length
     ·rw [if_pos (by omega),decide_eq_true h4,Bool.true_and];exact Tot.ret rfl
     ·rw [if_neg (by omega),decide_eq_false h4];exact Tot.ret rfl
    ·rw [if_neg (by omega),decide_eq_false h2];exact Tot.ret rfl
   ·rw [if_neg h1,decide_eq_false h1];exact Tot.ret rfl
theorem copyNode (y:TNode) (h:okN y):zcm y=some y:=by
 have h1:=h.1
 have h2:=h.2
 unfold small at h1 h2
 unfold zcm
 simp only [List.length_nil,Nat.zero_add]
 rw [zak (by omega) (by omega),Option.bind_some,zak (by omega) (by omega)]
 rfl
theorem zng (s:TStructure) (h:shortS s):zcn s=some s:=by
 have hn:=h.n
 have hx:=h.x
 unfold small at hn hx
 unfold zcn
 simp only [List.length_nil,Nat.zero_add]
 rw [zak (by omega) (by omega),Option.bind_some]
 refine Tot.eq (Tot.bind (P:=(· = s.nodes)) (Tot.loop (fun i q=>q=((i:Int),s.nodes.take i)) s.nodes.length (by simp) fun i q hI hi=>?_) fun r hr=>by subst hr;exact Tot.ret rfl)
 subst hI
 by_cases hlt:i < s.nodes.length
 ·simp only [ltI,zaf,zck,List.getElem?_eq_getElem hlt,Option.bind_some,copyNode _ (h.e _ (List.getElem_mem hlt)),List.length_take,List.length_singleton]
  rw [if_pos (by omega),zak (by omega) (by omega),Option.bind_some,zam (by omega) (by omega)]
  exact Tot.ret ⟨hlt,by rw [zfn hlt];rfl⟩
 ·simp only [ltI,zaf]
  rw [if_neg (by omega)]
  exact Tot.ret (List.take_of_length_le (by omega))
open Wf (wf)
open Sm (sm lg)
def frm (n:Nat) (t:Int) (i:Nat):Int:=if i=n then t else (i:Int)
open Wf (wf)
open Sm (sm lg)
structure Foc (s:TStructure) (b:Int) (ts:List Int):Prop where
 sh:shortS s
 n10:s.nodes.length≤10
 sq:s.next.length=s.nodes.length * s.nodes.length
 b:0≤b∧b < (s.nodes.length:Int)
 t:∀ t∈ts,0≤t∧t < (s.nodes.length:Int)
 l:ts.length≤10
def varsF (s:TStructure):Int:=match s.nodes with | []=>0 | x :: _=>(x.vars.length:Int)
theorem zqb (s:TStructure):zdl s=some (varsF s):=by
 unfold zdl varsF
 cases h:s.nodes with
 | nil=>rfl
 | cons x xs =>
  simp only [eqI,zaf]
  rw [if_neg (by simp only [List.length_cons];omega),show (0:Int)=((0:Nat):Int) from rfl,zck]
  rfl
open Wf (wf)
open Sm (sm lg)
theorem zkw (v:Int) (set:List TStructure) (c:Int):∀ h∈shOf v set c,tiny h:=fun h hh=>zqk v c h (List.mem_filter.1 hh).1
theorem shL_pre (v:Int) (i:Nat) (hi:i≤3):∃ t,shL v 3=shL v i ++ t:=by
 unfold shL
 by_cases hv:1≤v∧v≤4
 ·rw [if_pos ⟨hv,by omega⟩,if_pos ⟨hv,by omega⟩]
  have h1:((3:Int).toNat)=3:=rfl
  rw [h1,Int.toNat_natCast]
  unfold shF
  have:List.range (3+1)=List.range (i+1) ++ List.range' (i+1) (3 - i):=by
   rw [List.range_eq_range',List.range_eq_range']
   have:=@List.range'_append 0 (i+1) (3 - i) 1
   simp only [Nat.one_mul,Nat.zero_add] at this
   rw [this]
   congr 1
   omega
  rw [this,List.flatMap_append]
  exact ⟨_,rfl⟩
 ·rw [if_neg (by omega),if_neg (by omega)]
  exact ⟨[],rfl⟩
theorem shOf_pre (v:Int) (set:List TStructure) (i:Nat) (hi:i≤3):∃ t,shOf v set 3=shOf v set i ++ t:=by
 obtain ⟨t,ht⟩:=shL_pre v i hi
 unfold shOf
 rw [ht,List.filter_append]
 exact ⟨_,rfl⟩
def hd3 (h:THeap):Bool × List Int × List Int:=(true,h.vars,h.next)
theorem first_least (v:Int) (set:List TStructure):(List.range 4).findSome? (fun i:Nat=>(shOf v set i).head?.map hd3)=(shOf v set 3).head?.map hd3:=by
 have key:∀ i:Nat,i≤3→∀ h,(shOf v set i).head?=some h→(shOf v set 3).head?=some h:=fun i hi h hh=>by
  obtain ⟨t,ht⟩:=shOf_pre v set i hi
  rw [ht]
  cases hl:shOf v set i with
  | nil=>rw [hl] at hh;cases hh
  | cons x xs=>rw [hl] at hh;exact hh
 show (([0,1,2,3]:List Nat)).findSome? _=_
 simp only [List.findSome?_cons,List.findSome?_nil]
 cases h0:(shOf v set ((0:Nat):Int)).head? with
 | some h=>rw [key 0 (by omega) h h0];rfl
 | none =>
  cases h1:(shOf v set ((1:Nat):Int)).head? with
  | some h=>rw [key 1 (by omega) h h1];rfl
  | none =>
   cases h2:(shOf v set ((2:Nat):Int)).head? with
   | some h=>rw [key 2 (by omega) h h2];rfl
   | none =>
    simp only [Option.map_none]
    rw [show (((3:Nat)):Int)=3 from rfl]
    cases (shOf v set 3).head? <;> rfl
def leastF (v:Int) (s:TStructure):THeap × Bool:=match (shOf v [s] 3).head? with | some h=>(h,true) | none=>(⟨[],[]⟩,false)
theorem spec_least (v:Int) (s:TStructure) (hok:okSet [s]):zee v s=some (leastF v s):=by
 unfold zee
 refine Tot.eq (Tot.bind (P:=(· = firstR ((shOf v [s] 3).head?.map hd3) ())) (Tot.first 4 (fun i:Nat=>(shOf v [s] i).head?.map hd3) () (fun i hi=>?_) ?_ ?_) fun r hr=>?_)
 ·simp only [leI,ltI,zaf,zgk v [s] _ hok,Option.bind_some]
  rw [if_pos (by omega),zam (by omega) (by omega)]
  cases hl:shOf v [s] (i:Int) with
  | nil=>rw [if_neg (by simp)];exact Tot.ret rfl
  | cons h t =>
   rw [if_pos (by simp only [List.length_cons];omega),show (0:Int)=((0:Nat):Int) from rfl,zck]
   simp only [List.getElem?_cons_zero,Option.bind_some,takeI,if_true]
   exact Tot.ret rfl
 ·simp only [leI,zaf]
  rw [if_neg (by omega)]
  exact Tot.ret rfl
 ·rw [first_least]
 ·subst hr
  unfold leastF
  cases (shOf v [s] 3).head? <;> exact Tot.ret rfl
theorem impl_least (v:Int) (s:TStructure) (hok:okSet [s]):zei v s=some (leastF v s):=by
 unfold zei leastF
 rw [zgm v [s] 3 hok,Option.bind_some]
 cases hl:shOf v [s] 3 with
 | nil=>rfl
 | cons h t =>
  simp only [eqI,zaf]
  rw [if_neg (by simp only [List.length_cons];omega),show (0:Int)=((0:Nat):Int) from rfl,zck]
  simp [takeI]
theorem least_tiny (v:Int) (s:TStructure):tiny (leastF v s).1:=by
 unfold leastF
 cases hl:shOf v [s] 3 with
 | nil=>exact ⟨by simp,by simp⟩
 | cons h t=>exact zkw v [s] 3 h (by rw [hl];exact List.mem_cons_self ..)
def okH (h:THeap):Prop:=h.vars.length≤100∧h.next.length≤100
theorem okH.v {h:THeap} (o:okH h):small h.vars.length:=by have:=o.1;unfold small;omega
theorem okH.n {h:THeap} (o:okH h):small h.next.length:=by have:=o.2;unfold small;omega
def ixI (xs:List Int) (v:Int):Int:=match xs.findIdx? (fun x=>decide (v=x)) with | some j=>(j:Int) | none=>-1
theorem posF_head (v:Int):∀ (xs:List Int) (i:Nat),(posF v i xs).head?=(xs.findIdx? (fun x=>decide (v=x))).map fun j=>((i+j:Nat):Int)
 | [],i=>rfl
 | x :: xs,i=>by
  rw [posF,List.findIdx?_cons]
  by_cases h:v=x
  ·subst h
   simp
  ·have h':¬ x=v:=fun e=>h e.symm
   simp only [h,h',if_false,decide_false,Bool.false_eq_true]
   rw [posF_head v xs (i+1)]
   cases xs.findIdx? (fun x=>decide (v=x)) with
   | none=>rfl
   | some j=>simp;omega
theorem spec_new (xs:List Int) (v:Int) (hl:small xs.length):zfb xs v=some (ixI xs v):=by
 unfold zfb ixI
 rw [positions xs v hl,Option.bind_some]
 have:=posF_head v xs 0
 cases hp:posF v 0 xs with
 | nil =>
  rw [hp] at this
  cases hf:xs.findIdx? (fun x=>decide (v=x)) with
  | none=>simp [eqI]
  | some j=>rw [hf] at this;cases this
 | cons p r =>
  rw [hp] at this
  cases hf:xs.findIdx? (fun x=>decide (v=x)) with
  | none=>rw [hf] at this;cases this
  | some j =>
   rw [hf] at this
   simp at this
   subst this
   have:¬ ((r.length:Int)+1=0):=by omega
   simp [eqI,this,at?]
def canF (h:THeap):THeap:=if cellsB h=true then ⟨h.vars.map (ixI (ordL h.next h.vars)),(ordL h.next h.vars).map fun c=>ixI (ordL h.next h.vars) (h.next.getD c.toNat 0)⟩ else ⟨[],[]⟩
theorem map_flat {α γ:Type} (xs:List α) (f:α→γ):xs.flatMap (fun x=>[f x])=xs.map f:=by
 induction xs with
 | nil=>rfl
 | cons x xs ih=>simp [ih]
theorem zqm (h:THeap):Seen h.next (ordL h.next h.vars):=ordSeen h.next h.vars [] ⟨by simp,by simp⟩
theorem zpv (xs:List Int) (F:Int→Option Int) (f:Int→Int) (hF:∀ x∈xs,F x=some (f x)) (hl:xs.length≤1000) :
 iter (ρ:=(List Int)) (fun s_8:Int × (List Int) =>
         cond (ltI s_8.1 (xs.length:Int))
          ((at? xs s_8.1).bind fun e_28 =>
           (F e_28).bind fun y_33 =>
            (room (s_8.2.length + [y_33].length) 8).bind fun _ =>
             some (.inl (addI s_8.1 1,s_8.2 ++ [y_33])))
          (some (.inr s_8.2))) (0,[])=some (xs.map f):=by
 refine Tot.eq (Tot.flat (fun b i=>(i,b)) 0 xs (fun x=>[f x]) (acc:=[]) rfl (by simp [map_flat]) (fun i x b hx hb=>?_) fun b=>?_)
 ·have hi:=(List.getElem?_eq_some_iff.1 hx).1
  rw [map_flat] at hb
  simp only [List.length_nil,List.length_map,List.length_singleton] at hb
  simp only [Int.zero_add,zfs,zck,hx,Option.bind_some,hF x (List.mem_of_getElem? hx),List.length_singleton]
  rw [if_pos (by omega),zak (by omega) (by omega),zam (by omega) (by omega)]
  exact Tot.ret rfl
 ·simp only [Int.zero_add,zfs]
  rw [if_neg (by omega)]
  exact Tot.ret rfl
theorem ord_at (h:THeap):∀ c∈ordL h.next h.vars,at? h.next c=some (h.next.getD c.toNat 0):=fun c hc=>at_in ((zqm h).rng c hc)
theorem spec_canon (h:THeap) (o:okH h):zeg h=some (canF h):=by
 unfold zeg canF
 have hl:=(zqm h).len
 have o2:=o.2
 have o1:=o.1
 have hs:small (ordL h.next h.vars).length:=by unfold small;omega
 simp only [l7Cells h o.v o.n,Option.bind_some,l7Order h o.v o.n]
 cases cellsB h
 ·rfl
 ·simp only [cond_true,if_true]
  rw [zpv h.vars (fun c=>zfb (ordL h.next h.vars) c) (ixI (ordL h.next h.vars)) (fun x _=>spec_new _ x hs) (by omega)]
  simp only [Option.bind_some]
  have:=zpv (ordL h.next h.vars) (fun c=>(at? h.next c).bind fun e=>zfb (ordL h.next h.vars) e) (fun c=>ixI (ordL h.next h.vars) (h.next.getD c.toNat 0)) (fun x hx=>by
   simp only [ord_at h x hx,Option.bind_some]
   exact spec_new _ _ hs) (by omega)
  simp only [Option.bind_assoc] at this
  rw [this]
  rfl
theorem canF_len (h:THeap):(canF h).vars.length≤h.vars.length∧(canF h).next.length≤h.next.length:=by
 have hl:=(zqm h).len
 unfold canF
 split
 ·simp;exact hl
 ·simp

open Wf (wf)
open Sm (sm lg)

structure okB (s:TStructure):Prop where
 sh:shortS s
 v:1≤varsF s∧varsF s≤4
 n:s.nodes.length≤10
 z:1≤s.nodes.length
 e:∀ x∈s.nodes,(x.vars.length:Int)=varsF s∧(x.reach.length:Int)=varsF s
theorem okB_of {s:TStructure} (h:shortS s) (hs:isStrB (varsF s) s=true) (h0:¬ s.nodes.length=0):okB s:=by
 unfold isStrB at hs
 simp only [Bool.and_eq_true,decide_eq_true_eq,List.all_eq_true] at hs
 refine ⟨h,hs.1,hs.2.1,by omega,fun x hx=>?_⟩
 have:=hs.2.2.2.2 x hx
 unfold nodeOkB at this
 simp only [Bool.and_eq_true,decide_eq_true_eq] at this
 exact ⟨this.1,this.2.1⟩
theorem zjt {s:TStructure} {i:Int} (h:0≤i∧i < (s.nodes.length:Int)):s.nodes.getD i.toNat zN∈s.nodes:=by
 have:i.toNat < s.nodes.length:=by omega
 simp [List.getD,this]

def predV (s:TStructure) (k i:Int):Int :=
 if k≤varsF s - 1 then (s.nodes.getD i.toNat zN).vars.getD k.toNat 0 else if k≤2 * varsF s - 1 then (s.nodes.getD i.toNat zN).reach.getD (k - varsF s).toNat 0 else (s.nodes.getD i.toNat zN).shared
theorem l13At_in {l:List Int} {k:Int} (hl:small l.length) (h:0≤k∧k < (l.length:Int)):zgc l k=some (l.getD k.toNat 0):=by
 unfold small at hl
 unfold zgc
 rw [zcq,zea (by omega) (by omega)]
 simp only [Option.bind_some,zaf]
 rw [if_pos (by omega),at_in' h 0]
 rfl
theorem spec_pred {s:TStructure} (hs:okB s) {k i:Int} (hi:0≤i∧i < (s.nodes.length:Int)) (hk:0≤k∧k≤2 * varsF s):zde s k i=some (predV s k i):=by
 have hv:=hs.v
 have hn:=hs.n
 obtain ⟨e1,e2⟩:=hs.e _ (zjt hi)
 obtain ⟨o1,o2⟩:=hs.sh.e _ (zjt hi)
 unfold zde predV
 rw [zqb,Option.bind_some,zcq,zcq,zcq,zea (by omega) (by omega),zea (by omega) (by omega),znv (by omega) (by omega),zea (by omega) (by omega)]
 simp only [Option.bind_some,zaf]
 rw [if_pos (by omega)]
 by_cases h1:k≤varsF s - 1
 ·rw [if_pos (by omega),if_pos h1,at_in' hi zN,Option.bind_some,l13At_in o1 (by omega)]
  rfl
 ·rw [if_neg (by omega),if_neg h1]
  by_cases h2:k≤2 * varsF s - 1
  ·rw [if_pos (by omega),if_pos h2,at_in' hi zN,Option.bind_some,zea (by omega) (by omega),l13At_in o2 (by omega)]
   rfl
  ·rw [if_neg (by omega),if_neg h2]
   simp only [eqI,zaf]
   rw [if_pos (by omega),at_in' hi zN]
   rfl
def txtF (a:Int):ByteArray:=if 0≤a∧a≤2 then (⟨#[48,63,49]⟩:ByteArray).extract a.toNat (a+1).toNat else ⟨#[]⟩
theorem zqh (a:Int):zcw a=some (txtF a):=by
 unfold zcw txtF zbc
 rw [zcq]
 simp only [Option.bind_some,zaf]
 by_cases h:0≤a∧a≤2
 ·rw [if_pos h,if_pos h,zam (by omega) (by omega)]
  unfold sub?
  rw [if_pos ⟨h.1,by omega,by show a+1≤3;omega⟩]
  rfl
 ·rw [if_neg h,if_neg h]
theorem zjo (a:Int):(txtF a).size≤1:=by
 unfold txtF
 split
 ·rw [ByteArray.size_extract]
  have:(⟨#[48,63,49]⟩:ByteArray).size=3:=rfl
  omega
 ·exact Nat.zero_le _
def nameK (s:TStructure) (i:Int):Nat→ByteArray
 | 0=>⟨#[]⟩
 | k+1=>nameK s i k ++ txtF (predV s k i)
theorem zls (s:TStructure) (i:Int):∀ k,(nameK s i k).size≤k
 | 0=>Nat.le_refl _
 | k+1=>by
  rw [nameK,ByteArray.size_append]
  have:=zls s i k
  have:=zjo (predV s k i)
  omega
def nameF (s:TStructure) (i:Int):ByteArray:=nameK s i (2 * varsF s+1).toNat
theorem spec_name {s:TStructure} (hs:okB s) {i:Int} (hi:0≤i∧i < (s.nodes.length:Int)):zev s i=some (nameF s i):=by
 have hv:=hs.v
 have hn:=hs.n
 have hz:=hs.z
 have hcp:zbp s=some (2 * varsF s+1):=by
  unfold zbp
  simp only [eqI,zaf]
  rw [if_neg (by omega),zqb,Option.bind_some,znv (by omega) (by omega),zam (by omega) (by omega)]
 unfold zev
 rw [zcq,zea (by omega) (by omega)]
 simp only [Option.bind_some,zaf,hcp]
 rw [if_pos (by omega)]
 refine Tot.eq (Tot.bind (P:=(· = nameF s i)) (Tot.loop (fun k q=>q=(nameK s i k,(k:Int))) (2 * varsF s+1).toNat rfl fun k q hI hk=>?_) fun r hr=>by subst hr;exact Tot.ret rfl)
 subst hI
 by_cases hlt:(k:Int) < 2 * varsF s+1
 ·simp only [ltI,zaf]
  rw [if_pos hlt,spec_pred hs hi (by omega),Option.bind_some,zqh,Option.bind_some]
  have h1:=zls s i k
  have h2:=zjo (predV s k i)
  unfold catS
  rw [if_pos (by omega),Option.bind_some,zam (by omega) (by omega)]
  exact Tot.ret ⟨by omega,rfl⟩
 ·simp only [ltI,zaf]
  rw [if_neg hlt]
  have:k=(2 * varsF s+1).toNat:=by omega
  subst this
  exact Tot.ret rfl
theorem name_size {s:TStructure} (hs:okB s) (i:Int):(nameF s i).size≤9:=by
 have:=zls s i (2 * varsF s+1).toNat
 have:=hs.v
 unfold nameF
 omega
def namesL (s:TStructure) (k:Nat):List ByteArray:=(List.range k).map fun i:Nat=>nameF s (i:Int)
theorem namesT_L {s:TStructure} {nm:TStructure→Int→Option ByteArray} (h:∀ i:Nat,i < s.nodes.length→nm s (i:Int)=some (nameF s (i:Int))):∀ k,k≤s.nodes.length→namesT (nm s) k=some (namesL s k)
 | 0,_=>rfl
 | k+1,hk=>by
  rw [namesT,namesT_L h k (by omega),Option.bind_some,h k (by omega),Option.bind_some]
  unfold namesL
  rw [List.range_succ,List.map_append]
  rfl
theorem names_few {s:TStructure} (hs:okB s):few (namesL s s.nodes.length)=true:=by
 unfold few
 rw [Bool.and_eq_true,List.all_eq_true]
 have hn:=hs.n
 refine ⟨by simp [namesL];omega,fun x hx=>?_⟩
 unfold namesL at hx
 obtain ⟨i,_,rfl⟩:=List.mem_map.1 hx
 have:=name_size hs (i:Int)
 simp
 omega
open Wf (wf)
open Sm (sm lg)

def joinV (a b:Int):Int:=if a=b then (if 0≤a∧a≤2 then a else 1) else 1
theorem spec_join (a b:Int):zfy a b=some (joinV a b):=by
 unfold zfy joinV zbc
 rw [zcq]
 simp only [Option.bind_some,zaf,neI,zdj]
 by_cases h:a=b
 ·rw [if_pos h,if_pos h]
  by_cases h1:0≤a∧a≤2
  ·rw [if_pos h1,if_pos h1]
  ·rw [if_neg h1,if_neg h1]
 ·rw [if_neg h,if_neg h]
def rowG (s:TStructure) (i:Int) (b:List Int) (acc:Int):Int:=b.foldl (fun acc j=>joinV acc (nextV s i j)) acc
def nextG (s:TStructure) (a b:List Int):Int:=a.foldl (fun acc i=>rowG s i b acc) (nextV s (a.getD 0 0) (b.getD 0 0))
theorem zrk {α:Type} {xs:List α} (h:xs≠[]) (d:α):at? xs 0=some (xs.getD 0 d):=by
 have:=List.length_pos_iff.2 h
 exact at_in' (by omega) d
theorem spec_next (s:TStructure) {a b:List Int} (hs:small s.nodes.length) (ha:small a.length) (hb:small b.length) (a0:a≠[]) (b0:b≠[]):zeq s a b=some (nextG s a b):=by
 unfold small at ha hb
 unfold zeq
 rw [zrk a0 0,zrk b0 0]
 simp only [Option.bind_some,zhh s _ _ hs]
 refine Tot.eq (Tot.bind (P:=(· = nextG s a b)) (Tot.loop (fun i q=>q=((a.take i).foldl (fun acc i=>rowG s i b acc) (nextV s (a.getD 0 0) (b.getD 0 0)),(i:Int))) a.length rfl fun i q hI hi=>?_) fun r hr=>by subst hr;exact Tot.ret rfl)
 subst hI
 by_cases hlt:i < a.length
 ·simp only [ltI,zaf]
  rw [if_pos (by omega)]
  generalize hq:(a.take i).foldl (fun acc i=>rowG s i b acc) (nextV s (a.getD 0 0) (b.getD 0 0))=acc
  refine Tot.bind (P:=(· = rowG s a[i] b acc)) (Tot.loop (fun j q=>q=(rowG s a[i] (b.take j) acc,(j:Int))) b.length rfl fun j q hJ hj=>?_) fun r hr=>?_
  ·subst hJ
   by_cases hjl:j < b.length
   ·simp only [zck,List.getElem?_eq_getElem hlt,List.getElem?_eq_getElem hjl,Option.bind_some,spec_join]
    rw [if_pos (by omega),zam (by omega) (by omega)]
    exact Tot.ret ⟨hjl,by rw [zfn hjl];unfold rowG;rw [List.foldl_append];rfl⟩
   ·simp only
    rw [if_neg (by omega)]
    have:j=b.length:=by omega
    subst this
    exact Tot.ret (by show _=_;rw [List.take_length])
  ·subst hr
   rw [zam (by omega) (by omega)]
   exact Tot.ret ⟨hlt,by rw [zfn hlt,List.foldl_append,hq];rfl⟩
 ·simp only [ltI,zaf]
  rw [if_neg (by omega)]
  have:i=a.length:=by omega
  subst this
  exact Tot.ret (by show _=_;rw [List.take_length];rfl)
def manyG (s:TStructure) (g:List Int):Int:=if 1 < g.length then 1 else if (s.nodes.getD (g.getD 0 0).toNat zN).many≠0 then 1 else (s.nodes.getD (g.getD 0 0).toNat zN).many
def nodeG (s:TStructure) (g:List Int):TNode:={ s.nodes.getD (g.getD 0 0).toNat zN with many:=manyG s g }
def inG (s:TStructure) (g:List Int):Prop:=∀ z∈g,0≤z∧z < (s.nodes.length:Int)
theorem zrb {α:Type} {xs:List α} {i:Nat} (h:i < xs.length) (d:α):xs.getD i d∈xs:=by simp [List.getD,h]
theorem spec_nodeB {s:TStructure} (hs:shortS s) {g:List Int} (hg:small g.length) (g0:g≠[]) (hin:inG s g):zep s g=some (nodeG s g):=by
 unfold small at hg
 have hp:=List.length_pos_iff.2 g0
 have h0:=hin _ (zrb hp 0)
 unfold zep
 rw [zrk g0 0,Option.bind_some,at_in' h0 zN,Option.bind_some,copyNode _ (hs.e _ (zjt h0)),Option.bind_some]
 refine Tot.eq (Tot.bind (P:=(· = manyG s g)) (Tot.loop (fun i q=>q=((i:Int),if i=0 then (s.nodes.getD (g.getD 0 0).toNat zN).many else manyG s g)) g.length rfl fun i q hI hi=>?_) fun r hr=>by subst hr;exact Tot.ret rfl)
 subst hI
 by_cases hlt:i < g.length
 ·have hz:=hin _ (zrb hlt 0)
  simp only [ltI,zaf,ziq hlt 0,Option.bind_some,at_in' hz zN,neI,zdj]
  rw [if_pos (by omega),zam (by omega) (by omega)]
  by_cases h1:1 < g.length
  ·rw [if_pos (by omega)]
   exact Tot.ret ⟨hlt,by rw [if_neg (by omega)];unfold manyG;rw [if_pos h1];rfl⟩
  ·rw [if_neg (by omega)]
   have:i=0:=by omega
   subst this
   by_cases h2:(s.nodes.getD (g.getD 0 0).toNat zN).many=0
   ·rw [if_pos h2]
    exact Tot.ret ⟨hlt,by rw [if_pos rfl,if_neg (by omega)];unfold manyG;rw [if_neg h1,if_neg (fun h=>h h2)];rfl⟩
   ·rw [if_neg h2]
    exact Tot.ret ⟨hlt,by rw [if_neg (by omega)];unfold manyG;rw [if_neg h1,if_pos h2];rfl⟩
 ·simp only [ltI,zaf]
  rw [if_neg (by omega)]
  exact Tot.ret (by show _=_;rw [if_neg (by omega)])
open Wf (wf)
open Sm (sm lg)

def gsF (s:TStructure):List (List Int):=grpO (namesL s s.nodes.length)
def blurG (s:TStructure) (gs:List (List Int)):TStructure:=⟨gs.map (nodeG s),gs.flatMap fun a=>gs.map (nextG s a)⟩
def blurF (s:TStructure):TStructure:=if s.nodes.length=0 then ⟨[],[]⟩ else if isStrB (varsF s) s=true then blurG s (gsF s) else s
structure Grp (s:TStructure) (gs:List (List Int)):Prop where
 l:gs.length≤10
 e:∀ g∈gs,g≠[]∧g.length≤10∧inG s g
theorem namesL_len (s:TStructure) (k:Nat):(namesL s k).length=k:=by simp [namesL]
theorem grp_ok {s:TStructure} (h:okB s):Grp s (gsF s):=by
 have hn:=h.n
 have hl:=namesL_len s s.nodes.length
 refine ⟨?_,fun g hg=>?_⟩
 ·unfold gsF grpO
  rw [List.length_map,(zhf _).length_eq]
  have:=zon (namesL s s.nodes.length)
  omega
 ·unfold gsF grpO at hg
  obtain ⟨k,hk,rfl⟩:=List.mem_map.1 hg
  have hm:=(zja _ _).1 hk
  refine ⟨fun h0=>posN_nil.1 h0 hm,?_,fun z hz=>?_⟩
  ·have:=zkh k (namesL s s.nodes.length) 0
   omega
  ·have:=zpj hz
   omega
theorem zqj {s:TStructure} (hs:shortS s) {gs:List (List Int)} (hG:Grp s gs):Tot ((iter (ρ:=(List TNode) × (List Int)) (fun s_12:Int × (List TNode) × (List Int) =>
        cond (ltI s_12.1 (gs.length:Int))
         ((at? gs s_12.1).bind fun e_20 =>
          (zep s e_20).bind fun y_25 =>
           (room (s_12.2.1.length + [y_25].length) 64).bind fun _ =>
            (iter (ρ:=(List Int)) (fun s_30:Int × (List Int) =>
             cond (ltI s_30.1 (gs.length:Int))
              ((at? gs s_12.1).bind fun _ =>
               (at? gs s_30.1).bind fun e_43 =>
                (zeq s e_20 e_43).bind fun y_48 =>
                 (room (s_30.2.length + [y_48].length) 8).bind fun _ =>
                  some (.inl (addI s_30.1 1,s_30.2 ++ [y_48])))
              (some (.inr s_30.2))) (0,s_12.2.2)).bind fun r_53 =>
             some (.inl (addI s_12.1 1,s_12.2.1 ++ [y_25],r_53)))
         (some (.inr (s_12.2.1,s_12.2.2)))) (0,[],[])).bind fun r_58 =>
       some (⟨r_58.1,r_58.2⟩:TStructure)) (· = blurG s gs):=by
 have hl:=hG.l
 have hrow:∀ m,((gs.take m).flatMap fun a=>gs.map (nextG s a)).length=(gs.take m).length * gs.length:=fun m=>zkl _ _ _ (fun x _=>by simp)
 refine Tot.bind (P:=(· = (gs.map (nodeG s),gs.flatMap fun a=>gs.map (nextG s a)))) (Tot.loop (fun i q=>q=((i:Int),(gs.take i).map (nodeG s),(gs.take i).flatMap fun a=>gs.map (nextG s a))) gs.length rfl fun i q hI hi=>?_) fun r hr=>by subst hr;exact Tot.ret rfl
 subst hI
 by_cases hlt:i < gs.length
 ·obtain ⟨g0,g1,g2⟩:=hG.e _ (List.getElem_mem hlt)
  have hi10:i * gs.length≤10 * 10:=Nat.mul_le_mul (by omega) (by omega)
  have hrl:((gs.take i).flatMap fun a=>gs.map (nextG s a)).length=i * gs.length:=by rw [hrow,List.length_take,Nat.min_eq_left (by omega)]
  simp only [ltI,zaf,zck,List.getElem?_eq_getElem hlt,Option.bind_some,spec_nodeB hs (show small gs[i].length by unfold small;omega) g0 g2,List.length_map,List.length_take,List.length_singleton]
  rw [if_pos (by omega),zak (by omega) (by omega),Option.bind_some]
  refine Tot.bind (P:=(· = (gs.take (i+1)).flatMap fun a=>gs.map (nextG s a))) (Tot.loop (fun j q=>q=((j:Int),((gs.take i).flatMap fun a=>gs.map (nextG s a)) ++ (gs.take j).map (nextG s gs[i]))) gs.length (by simp) fun j q hJ hj=>?_) fun r hr=>?_
  ·subst hJ
   by_cases hjl:j < gs.length
   ·obtain ⟨b0,b1,b2⟩:=hG.e _ (List.getElem_mem hjl)
    simp only [zck,List.getElem?_eq_getElem hjl,Option.bind_some,spec_next s hs.n (show small gs[i].length by unfold small;omega) (show small gs[j].length by unfold small;omega) g0 b0,List.length_append,hrl,List.length_map,List.length_take,List.length_singleton]
    rw [if_pos (by omega),zak (by omega) (by omega),Option.bind_some,zam (by omega) (by omega)]
    exact Tot.ret ⟨hjl,by rw [zfn hjl,List.map_append,List.append_assoc];rfl⟩
   ·simp only
    rw [if_neg (by omega)]
    have:j=gs.length:=by omega
    subst this
    exact Tot.ret (by show _=_;rw [List.take_length,zfn hlt,List.flatMap_append];simp)
  ·subst hr
   rw [zam (by omega) (by omega)]
   exact Tot.ret ⟨hlt,by rw [zfn hlt,List.map_append];rfl⟩
 ·simp only [ltI,zaf]
  rw [if_neg (by omega)]
  have:i=gs.length:=by omega
  subst this
  exact Tot.ret (by show _=_;rw [List.take_length])
theorem spec_blur {s:TStructure} (hs:shortS s):zgv s=some (blurF s):=by
 have hn:=hs.n
 unfold small at hn
 unfold zgv blurF
 simp only [eqI,zaf,zqb,Option.bind_some,zha _ s hs]
 by_cases h0:s.nodes.length=0
 ·rw [if_pos (by omega),if_pos h0]
 ·rw [if_neg (by omega),if_neg h0]
  cases hc:isStrB (varsF s) s with
  | false =>
   rw [cond_false,zng s hs,if_neg (by simp)]
   rfl
  | true =>
   have hb:=okB_of hs hc h0
   have hg:zfu s=some (gsF s):=by
    unfold zfu groupsT
    rw [namesT_L (fun i hi=>spec_name hb (by omega)) _ (Nat.le_refl _),Option.bind_some,if_pos (names_few hb)]
    rfl
   rw [cond_true,if_pos rfl,hg,Option.bind_some]
   exact (zqj hs (grp_ok hb)).eq
open Wf (wf)
open Sm (sm lg)

theorem sm_blur {s:TStructure} (h:sm s):sm (blurF s):=by
 unfold blurF
 split
 ·exact ⟨⟨by simp,by simp⟩,⟨by simp,by simp⟩⟩
 ·rename_i h0
  split
  ·rename_i hc
   have hG:=grp_ok (okB_of (zik h) hc h0)
   have hl:=hG.l
   unfold blurG
   refine ⟨⟨by simp only [List.length_map];omega,fun y hy=>?_⟩,⟨?_,fun _ _=>trivial⟩⟩
   ·obtain ⟨g,hg,rfl⟩:=List.mem_map.1 hy
    obtain ⟨g0,_,g2⟩:=hG.e g hg
    have hz:=g2 _ (zrb (List.length_pos_iff.2 g0) 0)
    have:=h.1.2 _ (zjt hz)
    exact ⟨this.1,this.2⟩
   ·simp only
    rw [zkl _ _ (gsF s).length (fun x _=>by simp)]
    have:(gsF s).length * (gsF s).length≤10 * 10:=Nat.mul_le_mul (by omega) (by omega)
    omega
  ·exact h
theorem sm_strOf (h:THeap):sm (strOf h):=by
 unfold strOf
 split
 ·split
  ·split
   ·rename_i h10 h4
    refine ⟨⟨by simp;omega,fun y hy=>?_⟩,⟨?_,fun _ _=>trivial⟩⟩
    ·simp only [List.mem_map,List.mem_range] at hy
     obtain ⟨i,hi,rfl⟩:=hy
     exact ⟨⟨by simp [nodeOf];omega,fun _ _=>trivial⟩,⟨by simp [nodeOf];omega,fun _ _=>trivial⟩⟩
    ·simp only
     rw [zlx]
     have:h.next.length * h.next.length≤10 * 10:=Nat.mul_le_mul h10 h10
     omega
   ·exact ⟨⟨by simp,by simp⟩,⟨by simp,by simp⟩⟩
  ·exact ⟨⟨by simp,by simp⟩,⟨by simp,by simp⟩⟩
 ·exact ⟨⟨by simp,by simp⟩,⟨by simp,by simp⟩⟩
open Wf (wf)
open Sm (sm lg)

def valsK (l:List Int):Nat→ByteArray
 | 0=>⟨#[]⟩
 | k+1=>valsK l k ++ txtF (l.getD k 0)
theorem zhe (l:List Int):∀ k,(valsK l k).size≤k
 | 0=>Nat.le_refl _
 | k+1=>by
  rw [valsK,ByteArray.size_append]
  have:=zhe l k
  have:=zjo (l.getD k 0)
  omega
def valsF (l:List Int):ByteArray:=valsK l l.length
theorem spec_vals (l:List Int) (h:l.length≤1000):zdm l=some (valsF l):=by
 unfold zdm
 refine Tot.eq (Tot.bind (P:=(· = valsF l)) (Tot.loop (fun k q=>q=(valsK l k,(k:Int))) l.length rfl fun k q hI hk=>?_) fun r hr=>by subst hr;exact Tot.ret rfl)
 subst hI
 by_cases hlt:k < l.length
 ·simp only [ltI,zaf,Int.ofNat_lt,hlt,if_true,zck,List.getElem?_eq_getElem hlt,Option.bind_some,zqh]
  have h1:=zhe l k
  have h2:=zjo l[k]
  unfold catS
  rw [if_pos (by omega),Option.bind_some,zam (by omega) (by omega)]
  exact Tot.ret ⟨trivial,by rw [valsK];simp [List.getD,hlt]⟩
 ·simp only [ltI,zaf,Int.ofNat_lt,hlt,if_false]
  have:k=l.length:=by omega
  subst this
  exact Tot.ret rfl
def dgB (j:Nat):ByteArray:=⟨#[UInt8.ofNat (48+j)]⟩
def arK (s:TStructure) (i:Int):Nat→List ByteArray
 | 0=>[]
 | j+1=>arK s i j ++ (if nextV s i j=2 then [dgB j] else if nextV s i j=1 then [dgB j ++ ⟨#[63]⟩] else [])
theorem arK_ok (s:TStructure) (i:Int):∀ j,(arK s i j).length≤j∧∀ x∈arK s i j,x.size≤2
 | 0=>⟨Nat.le_refl _,fun x hx=>by cases hx⟩
 | j+1=>by
  obtain ⟨h1,h2⟩:=arK_ok s i j
  have hd:(dgB j).size=1:=rfl
  have hq:(dgB j ++ ⟨#[63]⟩:ByteArray).size=2:=by rw [ByteArray.size_append];rfl
  rw [arK]
  refine ⟨?_,fun x hx=>?_⟩
  ·rw [List.length_append]
   split
   ·simp;omega
   ·split
    ·simp;omega
    ·simp;omega
  ·rcases List.mem_append.1 hx with hx | hx
   ·exact h2 x hx
   ·split at hx
    ·rw [List.mem_singleton] at hx;subst hx;omega
    ·split at hx
     ·rw [List.mem_singleton] at hx;subst hx;omega
     ·cases hx
def arF (s:TStructure) (i:Int):List ByteArray:=arK s i s.nodes.length
theorem spec_dig (j:Nat) (h:j < 10):zcb (j:Int)=some (dgB j):=by
 show digF _=_
 unfold digF
 rw [if_pos (by omega)]
 rfl
theorem spec_arrows (s:TStructure) (i:Int) (hn:s.nodes.length≤10):iter (ρ:=List ByteArray) (fun s_25:(List ByteArray) × Int =>
           cond (ltI s_25.2 (s.nodes.length:Int))
            ((zbo s i s_25.2).bind fun y_33 =>
             cond (eqI y_33 2)
              ((zcb s_25.2).bind fun y_37 =>
               (room (s_25.1.length + [y_37].length) 16).bind fun _ =>
                some (.inl (s_25.1 ++ [y_37],addI s_25.2 1)))
              (cond (eqI y_33 1)
               ((zcb s_25.2).bind fun y_43 =>
                (catS y_43 (⟨#[63]⟩:ByteArray)).bind fun z_46 =>
                 (room (s_25.1.length + [z_46].length) 16).bind fun _ =>
                  some (.inl (s_25.1 ++ [z_46],addI s_25.2 1)))
               (some (.inl (s_25.1,addI s_25.2 1)))))
            (some (.inr s_25.1))) ([],0)=some (arF s i):=by
 refine Tot.eq (Tot.loop (fun k q=>q=(arK s i k,(k:Int))) s.nodes.length rfl fun k q hI hk=>?_)
 subst hI
 obtain ⟨h1,h2⟩:=arK_ok s i k
 by_cases hlt:k < s.nodes.length
 ·simp only [ltI,zaf,Int.ofNat_lt,hlt,if_true,zhh s i _ (show small s.nodes.length by unfold small;omega),Option.bind_some,eqI,spec_dig k (by omega),List.length_singleton]
  have hcat:catS (dgB k) ⟨#[63]⟩=some (dgB k ++ ⟨#[63]⟩):=by
   unfold catS
   rw [if_pos (by show 1+1≤_;omega)]
  rw [hcat,Option.bind_some,zak (by omega) (by omega),Option.bind_some,Option.bind_some,zam (by omega) (by omega)]
  by_cases e2:nextV s i k=2
  ·rw [if_pos e2]
   exact Tot.ret ⟨trivial,by rw [arK,if_pos e2];rfl⟩
  ·rw [if_neg e2]
   by_cases e1:nextV s i k=1
   ·rw [if_pos e1]
    exact Tot.ret ⟨trivial,by rw [arK,if_neg e2,if_pos e1];rfl⟩
   ·rw [if_neg e1]
    exact Tot.ret ⟨trivial,by rw [arK,if_neg e2,if_neg e1,List.append_nil];rfl⟩
 ·simp only [ltI,zaf,Int.ofNat_lt,hlt,if_false]
  have:k=s.nodes.length:=by omega
  subst this
  exact Tot.ret rfl

def joinB (l:List ByteArray) (sep:ByteArray):ByteArray:=⟨(joinL l sep).toArray⟩
theorem joinL_len (m:Nat) (sep:ByteArray):∀ l:List ByteArray,(∀ x∈l,x.size≤m)→(joinL l sep).length≤l.length * (m+sep.size)
 | [],_=>by simp [joinL,Lib.join_nil]
 | x :: r,h=>by
  have hx:x.data.toList.length≤m:=by rw [Array.length_toList];exact h x (by simp)
  have hs:sep.data.toList.length=sep.size:=Array.length_toList
  have ht:(Lib.joinTail sep.data.toList (r.map (·.data.toList))).length≤r.length * (m+sep.size):=by
   have hr:∀ x∈r,x.size≤m:=fun y hy=>h y (by simp [hy])
   clear h hx
   induction r with
   | nil=>simp [Lib.joinTail]
   | cons y r ih =>
    have hy:y.data.toList.length≤m:=by rw [Array.length_toList];exact hr y (by simp)
    have:=ih fun z hz=>hr z (by simp [hz])
    have e:Lib.joinTail sep.data.toList ((y :: r).map (·.data.toList))=sep.data.toList ++ y.data.toList ++ Lib.joinTail sep.data.toList (r.map (·.data.toList)):=by simp [Lib.joinTail]
    rw [e,List.length_append,List.length_append,List.length_cons,Nat.succ_mul]
    omega
  unfold joinL
  rw [List.map_cons,Lib.join_cons,List.length_append,List.length_cons,Nat.succ_mul]
  omega
theorem joinB_ok {l:List ByteArray} {sep:ByteArray} {m:Nat} (h:∀ x∈l,x.size≤m) (hl:l.length≤10) (hm:m≤1000) (hs:sep.size≤1):zgg l sep=some (joinB l sep)∧(joinB l sep).size≤10 * (m+1):=by
 have h1:=joinL_len m sep l h
 have h2:l.length * (m+sep.size)≤10 * (m+1):=Nat.mul_le_mul hl (by omega)
 have h3:(joinB l sep).size=(joinL l sep).length:=by
  show (joinL l sep).toArray.size=_
  simp
 refine ⟨?_,by omega⟩
 show joinF l sep=_
 unfold joinF
 rw [if_pos ⟨by omega,by omega⟩]
 rfl

def headF (x:TNode):ByteArray:=valsF x.vars ++ valsF x.reach ++ txtF x.shared
def starF (x:TNode):ByteArray:=if x.many=1 then headF x ++ ⟨#[42]⟩ else headF x
def wordF (s:TStructure) (i:Int):ByteArray :=
 if 0 < ((arF s i).length:Int) then starF (s.nodes.getD i.toNat zN) ++ (⟨#[62]⟩ ++ joinB (arF s i) ⟨#[44]⟩) else starF (s.nodes.getD i.toNat zN)
theorem zoq {a b:ByteArray} (h:a.size+b.size≤1000000):catS a b=some (a ++ b):=by
 unfold catS
 rw [if_pos (by omega)]
theorem zgs (b:UInt8):(⟨#[b]⟩:ByteArray).size=1:=rfl
theorem word_ok {s:TStructure} (hs:okB s) {i:Int} (hi:0≤i∧i < (s.nodes.length:Int)):(headF (s.nodes.getD i.toNat zN)).size≤9∧(starF (s.nodes.getD i.toNat zN)).size≤10∧zgg (arF s i) ⟨#[44]⟩=some (joinB (arF s i) ⟨#[44]⟩)∧(joinB (arF s i) ⟨#[44]⟩).size≤30∧(wordF s i).size≤50:=by
 have hv:=hs.v
 obtain ⟨e1,e2⟩:=hs.e _ (zjt hi)
 obtain ⟨a1,a2⟩:=arK_ok s i s.nodes.length
 have hn:=hs.n
 obtain ⟨j1,j2⟩:=joinB_ok (sep:=⟨#[44]⟩) (m:=2) a2 (by omega) (by omega) (Nat.le_refl _)
 have h1:=zhe (s.nodes.getD i.toNat zN).vars (s.nodes.getD i.toNat zN).vars.length
 have h2:=zhe (s.nodes.getD i.toNat zN).reach (s.nodes.getD i.toNat zN).reach.length
 have h3:=zjo (s.nodes.getD i.toNat zN).shared
 have hh:(headF (s.nodes.getD i.toNat zN)).size≤9:=by
  unfold headF valsF
  rw [ByteArray.size_append,ByteArray.size_append]
  omega
 have hst:(starF (s.nodes.getD i.toNat zN)).size≤10:=by
  unfold starF
  split
  ·rw [ByteArray.size_append,zgs];omega
  ·omega
 refine ⟨hh,hst,j1,j2,?_⟩
 unfold wordF
 split
 ·rw [ByteArray.size_append,ByteArray.size_append,zgs]
  have:(joinB (arF s i) ⟨#[44]⟩).size≤30:=j2
  omega
 ·omega
theorem spec_word {s:TStructure} (hs:okB s) {i:Int} (hi:0≤i∧i < (s.nodes.length:Int)):zfj s i=some (wordF s i):=by
 have hn:=hs.n
 have hv:=hs.v
 obtain ⟨e1,e2⟩:=hs.e _ (zjt hi)
 obtain ⟨w1,w2,w3,w4,w5⟩:=word_ok hs hi
 unfold zfj
 rw [at_in' hi zN,Option.bind_some,spec_vals _ (by omega),Option.bind_some,spec_vals _ (by omega),Option.bind_some]
 have h1:(valsF (s.nodes.getD i.toNat zN).vars).size≤4:=Nat.le_trans (zhe _ _) (by omega)
 have h2:(valsF (s.nodes.getD i.toNat zN).reach).size≤4:=Nat.le_trans (zhe _ _) (by omega)
 have h3:=zjo (s.nodes.getD i.toNat zN).shared
 rw [zoq (by omega),Option.bind_some,zqh,Option.bind_some,zoq (by rw [ByteArray.size_append];omega),Option.bind_some,spec_arrows s i hn]
 rw [show valsF (s.nodes.getD i.toNat zN).vars ++ valsF (s.nodes.getD i.toNat zN).reach ++ txtF (s.nodes.getD i.toNat zN).shared=headF (s.nodes.getD i.toNat zN) from rfl]
 simp only [eqI,ltI,zaf,Option.bind_some,w3]
 unfold wordF starF
 by_cases hm:(s.nodes.getD i.toNat zN).many=1
 ·rw [if_pos hm,zoq (by rw [zgs];omega),Option.bind_some,if_pos hm]
  by_cases ha:0 < ((arF s i).length:Int)
  ·rw [if_pos ha,if_pos ha,zoq (by rw [ByteArray.size_append,zgs,zgs];omega),Option.bind_some,zoq (by rw [ByteArray.size_append,ByteArray.size_append,zgs,zgs];omega),Option.bind_some,ByteArray.append_assoc (b:=⟨#[62]⟩)]
  ·rw [if_neg ha,if_neg ha]
 ·rw [if_neg hm,if_neg hm]
  by_cases ha:0 < ((arF s i).length:Int)
  ·rw [if_pos ha,if_pos ha,zoq (by rw [zgs];omega),Option.bind_some,zoq (by rw [ByteArray.size_append,zgs];omega),Option.bind_some,ByteArray.append_assoc (b:=⟨#[62]⟩)]
  ·rw [if_neg ha,if_neg ha]
open Wf (wf)
open Sm (sm lg)

def wdK (s:TStructure):Nat→List ByteArray
 | 0=>[]
 | k+1=>wdK s k ++ [wordF s k]
theorem zqa (s:TStructure):∀ k,(wdK s k).length=k
 | 0=>rfl
 | k+1=>by rw [wdK,List.length_append,zqa s k];rfl
theorem wdK_size {s:TStructure} (hs:okB s):∀ k,k≤s.nodes.length→∀ x∈wdK s k,x.size≤50
 | 0,_,x,hx=>by cases hx
 | k+1,hk,x,hx=>by
  rw [wdK] at hx
  rcases List.mem_append.1 hx with hx | hx
  ·exact wdK_size hs k (by omega) x hx
  ·rw [List.mem_singleton] at hx;subst hx
   exact (word_ok hs (i:=(k:Int)) (by omega)).2.2.2.2
def stF (s:TStructure):ByteArray:=joinB (wdK s s.nodes.length) ⟨#[32]⟩
theorem st_join {s:TStructure} (hs:okB s):zgg (wdK s s.nodes.length) ⟨#[32]⟩=some (stF s) :=
 (joinB_ok (m:=50) (wdK_size hs _ (Nat.le_refl _)) (by rw [zqa];exact hs.n) (by omega) (Nat.le_refl _)).1
theorem spec_text {s:TStructure} {z:List ByteArray} (hs:okB s) (hz:zdo z=some true) (hi:isStrB (z.length:Int) s=true):zbb z s=some (stF s):=by
 have hn:=hs.n
 have h1:=hs.z
 unfold zbb
 rw [hz,Option.bind_some,zha _ s hs.sh,hi]
 simp only [cond_true,Option.bind_some]
 refine Tot.eq (Tot.bind (P:=(· = wdK s s.nodes.length)) (Tot.loop (fun k q=>q=(wdK s k,(k:Int))) s.nodes.length rfl fun k q hI hk=>?_) fun r hr=>?_)
 ·subst hI
  by_cases hlt:k < s.nodes.length
  ·simp only [ltI,zaf]
   rw [if_pos (by omega),spec_word hs (by omega),Option.bind_some,zqa,List.length_singleton,zak (by omega) (by omega),Option.bind_some,zam (by omega) (by omega)]
   exact Tot.ret ⟨hlt,rfl⟩
  ·simp only [ltI,zaf]
   rw [if_neg (by omega)]
   have:k=s.nodes.length:=by omega
   subst this
   exact Tot.ret rfl
 ·subst hr
  simp only [eqI,zaf]
  rw [zqa,if_neg (by omega),st_join hs]
  exact Tot.ret rfl
theorem spec_name1 (c:UInt8) (h:97≤c.toNat∧c.toNat≤122):zfk ⟨#[c]⟩=some true:=by
 unfold zfk
 refine Tot.eq (Tot.bind (P:=fun r=>r=.inr ()) (Tot.loop (fun k q=>q=(k:Int)) 1 rfl fun k q hI hk=>?_) fun r hr=>?_)
 ·subst hI
  simp only [ltI,zaf,zgs]
  rcases Nat.eq_zero_or_pos k with rfl | hp
  ·have:chr? (⟨#[c]⟩:ByteArray) ((0:Nat):Int)=some (c.toNat:Int):=rfl
   rw [if_pos (by omega),this,Option.bind_some,if_neg (by omega),Option.bind_some,if_neg (by omega)]
   exact Tot.ret ⟨by omega,rfl⟩
  ·rw [if_neg (by omega)]
   exact Tot.ret rfl
 ·subst hr
  exact Tot.ret rfl
theorem spec_index {l:List ByteArray} {s:ByteArray} {k:Nat} (hl:l.length≤100) (hk:k < l.length) (h1:eqS l[k] s=true) (h2:∀ j (h:j < k),eqS (l[j]'(by omega)) s=false):zer l s=some (k:Int):=by
 unfold zer
 refine Tot.eq (Tot.bind (P:=fun r=>r=.inl (k:Int)) (Tot.loop (fun j q=>q=(j:Int)∧j≤k) k ⟨rfl,Nat.zero_le _⟩ fun j q hI hj=>?_) fun r hr=>?_)
 ·obtain ⟨rfl,hjk⟩:=hI
  simp only [ltI,zaf]
  rw [if_pos (by omega),zck,List.getElem?_eq_getElem (by omega),Option.bind_some]
  rcases Nat.lt_or_ge j k with h | h
  ·rw [h2 j h,zam (by omega) (by omega)]
   exact Tot.ret ⟨h,rfl,by omega⟩
  ·obtain rfl:j=k:=by omega
   rw [h1]
   exact Tot.ret rfl
 ·subst hr
  exact Tot.ret rfl
def L4:List ByteArray:=[⟨#[97]⟩,⟨#[98]⟩,⟨#[99]⟩,⟨#[100]⟩]
theorem areVars_of {l:List ByteArray} (hl:1≤l.length∧l.length≤4) (h1:∀ k (h:k < l.length),zfk l[k]=some true∧zer l l[k]=some (k:Int)):zdo l=some true:=by
 unfold zdo
 refine Tot.eq (Tot.bind (P:=fun r=>r=.inr ()) (Tot.loop (fun k q=>q=(k:Int)) l.length rfl fun k q hI hk=>?_) fun r hr=>?_)
 ·subst hI
  simp only [ltI,zaf]
  by_cases hlt:k < l.length
  ·obtain ⟨a1,a2⟩:=h1 k hlt
   rw [if_pos (by omega),zck,List.getElem?_eq_getElem hlt,Option.bind_some,a1,Option.bind_some,cond_true,Option.bind_some,a2,Option.bind_some]
   simp only [neI,zdj]
   rw [if_pos trivial,zam (by omega) (by omega)]
   exact Tot.ret ⟨hlt,rfl⟩
  ·rw [if_neg (by omega)]
   exact Tot.ret rfl
 ·subst hr
  rw [zcq]
  exact Tot.ret (by simp;omega)
theorem one_eq (a b:UInt8):eqS ⟨#[a]⟩ ⟨#[b]⟩=(a == b):=by
 have:∀ c:UInt8,(⟨#[c]⟩:ByteArray).toList=[c]:=fun c=>by rw [ba_toList]
 unfold eqS
 rw [this,this]
 simp
theorem spec_L4 (n:Nat) (hn:1≤n∧n≤4):zdo (L4.take n)=some true:=by
 have hlen:(L4.take n).length=n:=by rw [List.length_take];show min n 4=n;omega
 refine areVars_of (by omega) fun k hk=>?_
 rw [hlen] at hk
 have hg:∀ j (h:j < (L4.take n).length),(L4.take n)[j]=(⟨#[UInt8.ofNat (97+j)]⟩:ByteArray):=fun j h=>by
  have h4:j < 4:=by rw [hlen] at h;omega
  rw [List.getElem_take]
  match j,h4 with
  | 0,_=>rfl
  | 1,_=>rfl
  | 2,_=>rfl
  | 3,_=>rfl
 have hk4:k < 4:=by omega
 have hb:(UInt8.ofNat (97+k)).toNat=97+k:=by
  rw [UInt8.toNat_ofNat']
  omega
 refine ⟨by rw [hg];exact spec_name1 _ (by omega),spec_index (by omega) (by omega) ?_ fun j hj=>?_⟩
 ·unfold eqS;exact beq_self_eq_true _
 ·rw [hg,hg,one_eq,beq_eq_false_iff_ne]
  intro he
  have:=congrArg UInt8.toNat he
  rw [hb,UInt8.toNat_ofNat'] at this
  omega
def keyF (s:TStructure):ByteArray:=if s.nodes.length=0 then ⟨#[45]⟩ else if isStrB (varsF s) s=true then stF s else ⟨#[]⟩

theorem slc_L4 (n:Int) (h:0≤n∧n≤4):slc L4 0 n=some (L4.take n.toNat):=by
 unfold slc
 have:(L4.length:Int)=4:=rfl
 rw [if_pos (by omega)]
 simp
theorem isStr_range {v:Int} {s:TStructure} (h:isStrB v s=true):1≤v∧v≤4:=by
 unfold isStrB at h
 simp only [Bool.and_eq_true,decide_eq_true_eq] at h
 exact h.1
theorem znf {s:TStructure} {z:List ByteArray} (hs:shortS s) (hz:zdo z=some true) (hi:isStrB (z.length:Int) s=false):zbb z s=some ⟨#[]⟩:=by
 unfold zbb
 rw [hz,Option.bind_some,zha _ s hs,hi]
 rfl
theorem vars_nonneg (s:TStructure):0≤varsF s:=by
 unfold varsF
 split
 ·omega
 ·omega
theorem L4_len (n:Int) (h:0≤n∧n≤4):((L4.take n.toNat).length:Int)=n:=by
 rw [List.length_take]
 have:L4.length=4:=rfl
 omega
theorem zqi {s:TStructure} (hs:shortS s):zed s=some (keyF s):=by
 have hv:=vars_nonneg s
 unfold zed keyF
 simp only [eqI,zaf]
 by_cases h0:s.nodes.length=0
 ·rw [if_pos (by omega),if_pos h0]
 ·rw [if_neg (by omega),if_neg h0,zqb,Option.bind_some,zcq,Option.bind_some,zaf]
  by_cases h1:1≤varsF s∧varsF s≤4
  ·rw [if_pos h1]
   change ((slc L4 0 (varsF s)).bind fun z_9=>(zbb z_9 s).bind fun y_16=>some y_16)=_
   have hA:=spec_L4 (varsF s).toNat (by omega)
   have hl:=L4_len (varsF s) (by omega)
   rw [slc_L4 _ (by omega),Option.bind_some]
   cases hi:isStrB (varsF s) s with
   | true =>
    rw [spec_text (okB_of hs hi h0) hA (by rw [hl];exact hi)]
    rfl
   | false =>
    rw [znf hs hA (by rw [hl];exact hi)]
    rfl
  ·rw [if_neg h1]
   cases hi:isStrB (varsF s) s with
   | true=>exact absurd (isStr_range hi) h1
   | false=>rfl
open Wf (wf)
open Sm (sm lg)

def gtK (k:ByteArray) (y:TStructure):Bool:=gtT (keyF y) k
def insK (x:TStructure) (k:ByteArray):List TStructure→List TStructure
 | []=>[x]
 | y :: r=>if gtK k y=true then x :: y :: r else y :: insK x k r
def hasK (k:ByteArray) (l:List TStructure):Bool:=l.any fun y=>eqS (keyF y) k
def addF (set:List TStructure) (s:TStructure):List TStructure:=if hasK (keyF (blurF s)) set=true then set else insK (blurF s) (keyF (blurF s)) set
structure okSt (set:List TStructure):Prop where
 l:set.length≤3000000
 e:∀ x∈set,sm x
theorem insK_any (x:TStructure) (k:ByteArray):∀ (l r:List TStructure),l.any (gtK k)=true→insK x k (l ++ r)=insK x k l ++ r
 | [],_,h=>by cases h
 | y :: l,r,h=>by
  rw [List.cons_append,insK,insK]
  split
  ·rfl
  ·rename_i hn
   rw [List.any_cons,Bool.or_eq_true] at h
   rw [insK_any x k l r (h.resolve_left hn)]
   rfl
theorem zoe (x:TStructure) (k:ByteArray):∀ (l r:List TStructure),l.any (gtK k)=false→insK x k (l ++ r)=l ++ insK x k r
 | [],_,_=>rfl
 | y :: l,r,h=>by
  rw [List.any_cons,Bool.or_eq_false_iff] at h
  rw [List.cons_append,insK,if_neg (by rw [h.1];simp),zoe x k l r h.2]
  rfl
theorem zmt (x:TStructure) (k:ByteArray):∀ l:List TStructure,(insK x k l).length=l.length+1
 | []=>rfl
 | y :: r=>by
  rw [insK]
  split
  ·rfl
  ·rw [List.length_cons,zmt x k r];rfl
theorem insK_mem {x y:TStructure} {k:ByteArray}:∀ {l:List TStructure},y∈insK x k l→y=x∨y∈l
 | [],h=>by
  rw [insK,List.mem_singleton] at h
  exact .inl h
 | z :: r,h=>by
  rw [insK] at h
  split at h
  ·rcases List.mem_cons.1 h with h | h
   ·exact .inl h
   ·exact .inr h
  ·rcases List.mem_cons.1 h with h | h
   ·exact .inr (by simp [h])
   ·rcases insK_mem h with h | h
    ·exact .inl h
    ·exact .inr (by simp [h])
theorem addF_ok {set:List TStructure} {s:TStructure} (h:okSt set) (hs:sm s):(addF set s).length≤set.length+1∧∀ x∈addF set s,sm x:=by
 unfold addF
 split
 ·exact ⟨by omega,h.e⟩
 ·refine ⟨by rw [zmt];omega,fun x hx=>?_⟩
  rcases insK_mem hx with rfl | hx
  ·exact sm_blur hs
  ·exact h.e x hx
def stepK (x:TStructure) (k:ByteArray) (d:Bool) (l:List TStructure):List TStructure × Bool :=
 if d=true then (l,true) else if l.any (gtK k)=true then (insK x k l,true) else (l,false)
theorem stepK_len (x:TStructure) (k:ByteArray) (d:Bool) (l:List TStructure):(stepK x k d l).1.length≤l.length+1:=by
 unfold stepK
 split
 ·exact Nat.le_succ _
 ·split
  ·exact Nat.le_of_eq (zmt x k l)
  ·exact Nat.le_succ _
theorem stepK_snoc (x:TStructure) (k:ByteArray) (d:Bool) (l:List TStructure) (y:TStructure) :
 stepK x k d (l ++ [y])=if (stepK x k d l).2=true then ((stepK x k d l).1 ++ [y],true) else if gtK k y=true then ((stepK x k d l).1 ++ [x] ++ [y],true) else ((stepK x k d l).1 ++ [y],false):=by
 unfold stepK
 cases d with
 | true=>rfl
 | false =>
  simp only [Bool.false_eq_true,if_false,List.any_append,List.any_cons,List.any_nil,Bool.or_false]
  by_cases h:l.any (gtK k)=true
  ·rw [if_pos (by rw [h];rfl),if_pos h]
   simp only [if_true]
   rw [insK_any x k l [y] h]
  ·have h':l.any (gtK k)=false:=by simpa using h
   rw [if_neg h]
   simp only [Bool.false_eq_true,if_false,h',Bool.false_or]
   by_cases hy:gtK k y=true
   ·rw [if_pos hy,if_pos hy,zoe x k l [y] h',insK,if_pos hy]
    simp
   ·rw [if_neg hy,if_neg hy]
theorem spec_has {set:List TStructure} (k:ByteArray) (h:okSt set):(iter (ρ:=Bool) (fun s_7:Bool × Int =>
     cond (ltI s_7.2 (set.length:Int))
      (cond s_7.1
       (some (.inl (true,addI s_7.2 1)))
       ((at? set s_7.2).bind fun e_16 =>
        (zed e_16).bind fun y_21 =>
         some (.inl (eqS y_21 k,addI s_7.2 1))))
      (some (.inr s_7.1))) (false,0))=some (hasK k set):=by
 have hl:=h.l
 refine Tot.eq (Tot.loop (fun i q=>q=(hasK k (set.take i),(i:Int))) set.length rfl fun i q hI hi=>?_)
 subst hI
 simp only [ltI,zaf]
 by_cases hlt:i < set.length
 ·have e:hasK k (set.take (i+1))=(hasK k (set.take i) || eqS (keyF set[i]) k):=by
   unfold hasK
   rw [List.take_succ_eq_append_getElem hlt,List.any_append]
   simp
  rw [if_pos (by omega),zck,List.getElem?_eq_getElem hlt,Option.bind_some,zqi (zik (h.e _ (List.getElem_mem hlt))),Option.bind_some,zam (by omega) (by omega)]
  cases hh:hasK k (set.take i) with
  | true=>exact Tot.ret ⟨hlt,by rw [e,hh];rfl⟩
  | false=>exact Tot.ret ⟨hlt,by rw [e,hh];rfl⟩
 ·rw [if_neg (by omega)]
  exact Tot.ret (show hasK k (set.take i)=hasK k set by rw [List.take_of_length_le (by omega)])
theorem spec_add {set:List TStructure} {s:TStructure} (h:okSt set) (hs:sm s):zew set s=some (addF set s):=by
 have hb:=sm_blur hs
 have hl:=h.l
 unfold zew addF
 rw [spec_blur (zik hs),Option.bind_some,zqi (zik hb),Option.bind_some,spec_has _ h,Option.bind_some]
 generalize blurF s=x at hb
 generalize hk:keyF x=k
 generalize hd:hasK k set=d
 have hc:=zng x (zik hb)
 refine Tot.eq (Tot.bind (P:=(· = stepK x k d set)) (Tot.loop (fun i q=>q=((stepK x k d (set.take i)).1,(i:Int),(stepK x k d (set.take i)).2)) set.length (by cases d <;> rfl) fun i q hI hi=>?_) fun r hr=>?_)
 ·subst hI
  simp only [ltI,zaf]
  by_cases hlt:i < set.length
  ·have hy:=zik (h.e _ (List.getElem_mem hlt))
   have hlen:=stepK_len x k d (set.take i)
   rw [List.length_take] at hlen
   have hsn:=stepK_snoc x k d (set.take i) set[i]
   rw [← List.take_succ_eq_append_getElem hlt] at hsn
   rw [if_pos (by omega),zck,List.getElem?_eq_getElem hlt]
   simp only [Option.bind_some,zng _ hy,zqi hy,hc,List.length_singleton,List.length_append]
   rw [zak (by omega) (by omega),zak (n:=_+1+1) (by omega) (by omega),zam (by omega) (by omega)]
   simp only [Option.bind_some]
   cases hd2:(stepK x k d (set.take i)).2 with
   | true =>
    rw [hd2] at hsn
    exact Tot.ret ⟨hlt,by rw [hsn];rfl⟩
   | false =>
    rw [hd2] at hsn
    simp only [Bool.false_eq_true,if_false] at hsn
    have hg:gtT (keyF set[i]) k=gtK k set[i]:=rfl
    rw [hg]
    cases hg2:gtK k set[i] with
    | true =>
     rw [hg2] at hsn
     exact Tot.ret ⟨hlt,by rw [hsn];rfl⟩
    | false =>
     rw [hg2] at hsn
     exact Tot.ret ⟨hlt,by rw [hsn];rfl⟩
  ·rw [if_neg (by omega)]
   exact Tot.ret (show ((stepK x k d (set.take i)).1,(stepK x k d (set.take i)).2)=stepK x k d set by rw [List.take_of_length_le (by omega)])
 ·subst hr
  have hlen:=stepK_len x k d set
  unfold stepK at *
  cases d with
  | true=>exact Tot.ret rfl
  | false =>
   simp only [Bool.false_eq_true,if_false] at hlen ⊢
   by_cases hg:set.any (gtK k)=true
   ·rw [if_pos hg]
    exact Tot.ret rfl
   ·have hg':set.any (gtK k)=false:=by simpa using hg
    rw [if_neg hg]
    simp only [cond_false,hc,Option.bind_some,List.length_singleton]
    rw [zak (by omega) (by omega),Option.bind_some]
    refine Tot.ret ?_
    have:=zoe x k set [] hg'
    rw [List.append_nil] at this
    rw [this]
    rfl
open Wf (wf)
open Sm (sm lg)

def absF (h:THeap):TStructure:=blurF (strOf h)
theorem spec_abs {h:THeap} (s1:sm h):zch h=some (absF h):=by
 have l1:=s1.1.1
 have l2:=s1.2.1
 unfold zch
 rw [zgz h (by unfold small;omega) (by unfold small;omega),Option.bind_some,spec_blur (zik (sm_strOf h))]
 rfl
theorem sm_abs (h:THeap):sm (absF h):=sm_blur (sm_strOf h)

end Go.Ev

