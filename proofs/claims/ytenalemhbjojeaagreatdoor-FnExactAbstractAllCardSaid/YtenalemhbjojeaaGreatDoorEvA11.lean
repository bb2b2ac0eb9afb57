import Derived.Test.YtenalemhbjojeaaGreatDoorEvA6
import Derived.Test.YtenalemhbjojeaaGreatDoorEvA10
set_option linter.unusedSimpArgs false
set_option linter.unusedVariables false
set_option linter.unnecessarySimpa false
noncomputable section
namespace Go.Ev
def small (n:Nat):Prop:=n≤4000000

theorem findE {α:Type} (p:α→Bool):∀ (xs:List α) (i:Nat),
 foldE (β:=Unit) (ρ:=Int ⊕ Unit) (fun _ i x=>if p x then some (.inr (.inl (i:Int))) else some (.inl ())) (fun _=>some (.inr ())) () i xs =
  some (match xs.findIdx? p with | some j=>.inl ((i+j:Nat):Int) | none=>.inr ())
 | [],i=>rfl
 | x :: xs,i=>by
  rw [foldE]
  by_cases h:p x=true
  ·simp [h,List.findIdx?_cons]
  ·simp only [h,if_false,Bool.false_eq_true]
   rw [findE p xs (i+1),List.findIdx?_cons]
   simp only [h,if_false,Bool.false_eq_true]
   cases xs.findIdx? p with
   | none=>rfl
   | some j=>simp only [Option.map_some,Option.some.injEq,Sum.inl.injEq];omega

theorem index_int (xs:List Int) (v:Int) (hl:small xs.length):zdf xs v=some (match xs.findIdx? (fun x=>decide (v=x)) with | some j=>(j:Int) | none=>-1):=by
 unfold zdf
 rw [zjl xs (fun (_:Unit) i=>i) (fun _ i x=>if decide (v=x)=true then some (.inr (.inl (i:Int))) else some (.inl ())) (fun _=>some (.inr ())) (fun b i x hx=>?_) (fun b=>?_) (),findE]
 ·cases xs.findIdx? (fun x=>decide (v=x)) with
  | none=>rfl
  | some j=>simp
 ·have hlt:=(List.getElem?_eq_some_iff.1 hx).1
  unfold small at hl
  rw [zcn,hx,zam (by omega) (by omega)]
  simp only [ltI,eqI,zai,Option.bind_some]
  rw [if_pos (by omega)]
  by_cases h:v=x <;> simp [h]
 ·simp [ltI]

theorem zjt (xs:List Int) (v:Int) (hl:small xs.length):zaq xs v=some (decide (v∈xs)):=by
 unfold zaq
 rw [index_int xs v hl]
 simp only [Option.bind_some,leI,Option.some.injEq]
 cases h:xs.findIdx? (fun x=>decide (v=x)) with
 | none =>
  rw [List.findIdx?_eq_none_iff] at h
  have:v ∉ xs:=fun hm=>by simpa using h v hm
  simp [this]
 | some j =>
  rw [List.findIdx?_eq_some_iff_getElem] at h
  obtain ⟨hj,hp,_⟩:=h
  have:v∈xs:=by rw [of_decide_eq_true hp];exact List.getElem_mem hj
  simp [this]

theorem zes (n lo hi:Int):zbd n lo hi=some (decide (lo≤n∧n≤hi)):=by
 unfold zbd
 by_cases h:lo≤n <;> simp [leI,ltI,h]
theorem zdj (n lo hi:Int):zbe n lo hi=some (decide (lo≤n∧n≤hi)):=by
 unfold zbe
 by_cases h:lo≤n <;> simp [leI,ltI,h]

theorem positions_eq:zeu=zcu:=rfl
theorem zqi (a:Int):zcj a=zbm a:=by
 unfold zcj zbm
 simp [zes,zdj]
def posF (n:Int):Nat→List Int→List Int
 | _,[]=>[]
 | i,x :: xs=>if x=n then (i:Int) :: posF n (i+1) xs else posF n (i+1) xs
theorem posE (n:Int) (N:Nat) (hN:small N):∀ (xs:List Int) (i:Nat) (acc:List Int),acc.length+xs.length≤N →
 foldE (β:=List Int) (ρ:=List Int) (fun acc i x=>if x=n then (room (acc.length+1) 8).bind fun _=>some (.inl (acc ++ [(i:Int)])) else some (.inl acc)) (fun acc=>some acc) acc i xs=some (acc ++ posF n i xs)
 | [],i,acc,_=>by simp [foldE,posF]
 | x :: xs,i,acc,h=>by
  rw [foldE]
  simp only [List.length_cons] at h
  by_cases hx:x=n
  ·unfold small at hN
   have hr:room (acc.length+1) 8=some ():=by unfold room maxBytes;rw [if_pos (by omega)]
   simp only [hx,if_true,hr,Option.bind_some]
   rw [posE n N hN xs (i+1) (acc ++ [(i:Int)]) (by simp;omega)]
   simp [posF,hx]
  ·simp only [hx,if_false]
   rw [posE n N hN xs (i+1) acc (by omega)]
   simp [posF,hx]
theorem positions (xs:List Int) (n:Int) (hl:small xs.length):zcu xs n=some (posF n 0 xs):=by
 unfold zcu
 rw [zjl xs (fun (b:List Int) i=>(b,i)) (fun acc i x=>if x=n then (room (acc.length+1) 8).bind fun _=>some (.inl (acc ++ [(i:Int)])) else some (.inl acc)) (fun acc=>some acc) (fun b i x hx=>?_) (fun b=>?_) [],posE n xs.length hl xs 0 [] (by simp)]
 ·simp
 ·have hlt:=(List.getElem?_eq_some_iff.1 hx).1
  unfold small at hl
  simp only [zcn,hx,ltI,eqI,zai,Option.bind_some]
  rw [if_pos (by omega),zam (by omega) (by omega)]
  by_cases h:x=n
  ·simp only [h,if_true,List.length_singleton]
   cases room (b.length+1) 8 <;> rfl
  ·simp [h]
 ·simp [ltI]
theorem posF_mem (n:Int):∀ (xs:List Int) (i:Nat),0 < (posF n i xs).length ↔ n∈xs
 | [],i=>by simp [posF]
 | x :: xs,i=>by
  simp only [posF]
  by_cases h:x=n
  ·simp [h]
  ·have:=posF_mem n xs (i+1)
   simp only [h,if_false,this,List.mem_cons]
   constructor
   ·exact .inr
   ·rintro (h' | h')
    ·exact absurd h'.symm h
    ·exact h'
theorem l7Has (xs:List Int) (n:Int) (hl:small xs.length):zfj xs n=some (decide (n∈xs)):=by
 unfold zfj
 rw [positions xs n hl]
 have:=posF_mem n xs 0
 simp only [Option.bind_some,ltI,Option.some.injEq]
 rw [decide_eq_decide,← this]
 omega

theorem zos:∀ (n:Nat) (xs:List Int),xs.Nodup→(∀ x∈xs,0≤x∧x < n)→xs.length≤n
 | 0,xs,_,h=>by
  cases xs with
  | nil=>exact Nat.le_refl _
  | cons x xs=>have:=h x (List.mem_cons_self ..);omega
 | n+1,xs,hn,h=>by
  have h1:=zos n (xs.erase (n:Int)) (hn.erase _) (fun x hx=>by
   have hx':=(hn.mem_erase_iff).1 hx
   have:=h x hx'.2
   have hne:=hx'.1
   omega)
  by_cases hm:(n:Int)∈xs
  ·rw [List.length_erase_of_mem hm] at h1;omega
  ·rw [List.erase_of_not_mem hm] at h1;omega

theorem zjm (h:THeap) (n:Int) (hs:small h.next.length):zbc h n=some (decide (0≤n∧n < (h.next.length:Int))):=by
 unfold zbc
 unfold small at hs
 rw [zes,zec (by omega) (by omega)]
 simp only [Option.bind_some,Option.some.injEq,decide_eq_decide]
 omega

def fol (next:List Int):Nat→Int→List Int→(List Int) ⊕ Unit
 | 0,_,out=>.inl out
 | f+1,cur,out=>if cur = -1 then .inl out else if cur∈out then .inl out else if 0≤cur∧cur < (next.length:Int) then fol next f (next.getD cur.toNat 0) (out ++ [cur]) else .inr ()

theorem at_in {xs:List Int} {c:Int} (h:0≤c∧c < (xs.length:Int)):at? xs c=some (xs.getD c.toNat 0):=by
 unfold at?
 rw [if_pos h.1]
 have:c.toNat < xs.length:=by omega
 simp [List.getD,List.getElem?_eq_getElem this]
structure Seen (next out:List Int):Prop where
 nd:out.Nodup
 rng:∀ x∈out,0≤x∧x < (next.length:Int)
theorem Seen.len {next out:List Int} (h:Seen next out):out.length≤next.length:=zos _ _ h.nd h.rng
theorem Seen.push {next out:List Int} (h:Seen next out) {c:Int} (hc:c ∉ out) (hr:0≤c∧c < (next.length:Int)):Seen next (out ++ [c]) :=
 ⟨by rw [List.nodup_append];exact ⟨h.nd,by simp,fun a ha b hb=>by simp at hb;subst hb;rintro rfl;exact hc ha⟩,fun x hx=>by
  rcases List.mem_append.1 hx with hx | hx
  ·exact h.rng x hx
  ·simp at hx;subst hx;exact hr⟩

theorem spec_fol (h:THeap) (hs:small h.next.length):∀ (f:Nat) (cur:Int) (out:List Int),Seen h.next out→h.next.length+1≤f+out.length →
 iter (ρ:=((List Int)) ⊕ (Unit)) (fun s_1:Int × (List Int) =>
  cond (neI s_1.1 (-1))
   ((zfj s_1.2 s_1.1).bind fun y_12 =>
    cond y_12
     (some (.inr (.inl s_1.2)))
     ((zbe s_1.1 0 (subI (h.next.length:Int) 1)).bind fun y_16 =>
      cond y_16
       ((room (s_1.2.length + [s_1.1].length) 8).bind fun _ =>
        (at? h.next s_1.1).bind fun e_22 =>
         some (.inl (e_22,s_1.2 ++ [s_1.1])))
       (some (.inr (.inr ())))))
   (some (.inr (.inl s_1.2)))) (cur,out)=some (fol h.next f cur out)
 | 0,cur,out,hS,hf=>by have:=hS.len;omega
 | f+1,cur,out,hS,hf=>by
  have hl:=hS.len
  have hs':=hs
  unfold small at hs'
  have hso:small out.length:=by unfold small;omega
  by_cases h1:cur = -1
  ·rw [zdk (r:=.inl out) (by simp [neI,h1])]
   simp [fol,h1]
  ·by_cases h2:cur∈out
   ·rw [zdk (r:=.inl out) (by simp [neI,h1,l7Has out cur hso,h2])]
    simp [fol,h1,h2]
   ·by_cases h3:0≤cur∧cur < (h.next.length:Int)
    ·have hr:room (out.length+1) 8=some ():=by unfold room maxBytes;rw [if_pos (by omega)]
     rw [zgs (s':=(h.next.getD cur.toNat 0,out ++ [cur])) (by
      have h4:0≤cur∧cur≤(h.next.length:Int) - 1:=by omega
      simp only [neI,h1,decide_false,Bool.not_false,cond_true,l7Has out cur hso,h2,Option.bind_some,cond_false,zdj,zec (a:=(h.next.length:Int)) (b:=1) (by omega) (by omega),h4,and_self,decide_true,List.length_singleton,hr,at_in h3]),
      spec_fol h hs f _ _ (hS.push h2 h3) (by simp;omega)]
     simp [fol,h1,h2,h3]
    ·rw [zdk (r:=.inr ()) (by
      have h4:¬ (0≤cur∧cur≤(h.next.length:Int) - 1):=by omega
      simp only [neI,h1,decide_false,Bool.not_false,cond_true,l7Has out cur hso,h2,Option.bind_some,cond_false,zdj,zec (a:=(h.next.length:Int)) (b:=1) (by omega) (by omega),h4])]
     simp [fol,h1,h2,h3]

def folL (next:List Int) (c:Int):List Int:=Sum.elim id (fun _=>[]) (fol next (next.length+1) c [])
theorem zrb (h:THeap) (hs:small h.next.length) (c:Int):zeo h c=some (folL h.next c):=by
 unfold zeo
 rw [spec_fol h hs (h.next.length+1) c [] ⟨by simp,by simp⟩ (by simp)]
 unfold folL
 cases fol h.next (h.next.length+1) c [] <;> rfl

theorem impl_fol (h:THeap) (hs:small h.next.length) (cell:Int) (hc:cell≠-1):∀ (f:Nat) (cur:Int) (out:List Int),Seen h.next out→h.next.length+1≤f+out.length →
 iter (ρ:=((List Int)) ⊕ (Unit)) (fun s_1:(List Int) × Int =>
  cond (neI s_1.2 (-1))
   ((zbc h s_1.2).bind fun y_13 =>
    cond y_13
     ((zaq s_1.1 s_1.2).bind fun y_17 =>
      cond y_17
       (some (.inr (.inl s_1.1)))
       ((room (s_1.1.length + [s_1.2].length) 8).bind fun _ =>
        (at? h.next s_1.2).bind fun e_23 =>
         some (.inl (s_1.1 ++ [s_1.2],e_23))))
     (some (.inr (.inr ()))))
   (cond (eqI cell (-1))
    ((zbc h s_1.2).bind fun y_29 =>
     cond y_29
      ((zaq s_1.1 s_1.2).bind fun y_33 =>
       cond y_33
        (some (.inr (.inl s_1.1)))
        ((room (s_1.1.length + [s_1.2].length) 8).bind fun _ =>
         (at? h.next s_1.2).bind fun e_39 =>
          some (.inl (s_1.1 ++ [s_1.2],e_39))))
      (some (.inr (.inr ()))))
    (some (.inr (.inl s_1.1))))) (out,cur)=some (fol h.next f cur out)
 | 0,cur,out,hS,hf=>by have:=hS.len;omega
 | f+1,cur,out,hS,hf=>by
  have hl:=hS.len
  have hs':=hs
  unfold small at hs'
  have hso:small out.length:=by unfold small;omega
  by_cases h1:cur = -1
  ·rw [zdk (r:=.inl out) (by simp [neI,eqI,h1,hc])]
   simp [fol,h1]
  ·by_cases h3:0≤cur∧cur < (h.next.length:Int)
   ·by_cases h2:cur∈out
    ·rw [zdk (r:=.inl out) (by simp [neI,h1,zjm h cur hs,h3,zjt out cur hso,h2])]
     simp [fol,h1,h2]
    ·have hr:room (out.length+1) 8=some ():=by unfold room maxBytes;rw [if_pos (by omega)]
     rw [zgs (s':=(out ++ [cur],h.next.getD cur.toNat 0)) (by
      simp only [neI,h1,decide_false,Bool.not_false,cond_true,zjm h cur hs,h3,zjt out cur hso,h2,Option.bind_some,cond_false,and_self,decide_true,List.length_singleton,hr,at_in h3]),
      impl_fol h hs cell hc f _ _ (hS.push h2 h3) (by simp;omega)]
     simp [fol,h1,h2,h3]
   ·have h2:cur ∉ out:=fun hm=>h3 (hS.rng cur hm)
    rw [zdk (r:=.inr ()) (by simp only [neI,h1,decide_false,Bool.not_false,cond_true,zjm h cur hs,h3,Option.bind_some,cond_false])]
    simp [fol,h1,h2,h3]

theorem zrw (h:THeap) (hs:small h.next.length) (c:Int):zer h c=some (folL h.next c):=by
 unfold zer
 by_cases hc:c = -1
 ·rw [zdk (r:=.inr ()) (by
   have:¬ (0≤c∧c < (h.next.length:Int)):=by omega
   simp [neI,eqI,hc,zjm h _ hs])]
  simp [folL,fol,hc]
 ·rw [impl_fol h hs c hc (h.next.length+1) c [] ⟨by simp,by simp⟩ (by simp)]
  unfold folL
  cases fol h.next (h.next.length+1) c [] <;> rfl
theorem folL_len (next:List Int) (c:Int):(folL next c).length≤next.length:=by
 have key:∀ f cur out,Seen next out→(Sum.elim id (fun _=>[]) (fol next f cur out):List Int).length≤next.length:=by
  intro f
  induction f with
  | zero=>intro cur out hS;exact hS.len
  | succ f ih =>
   intro cur out hS
   simp only [fol]
   split
   ·exact hS.len
   ·split
    ·exact hS.len
    ·rename_i h2
     split
     ·rename_i h3;exact ih _ _ (hS.push h2 h3)
     ·simp
 exact key _ _ _ ⟨by simp,by simp⟩

theorem allE {α ρ:Type} (p:α→Bool) (rf rt:ρ):∀ (xs:List α) (i:Nat),foldE (β:=Unit) (fun _ _ x=>if p x then some (.inl ()) else some (.inr rf)) (fun _=>some rt) () i xs=some (if xs.all p then rt else rf)
 | [],_=>rfl
 | x :: xs,i=>by
  rw [foldE]
  by_cases h:p x=true
  ·simp only [h,if_true]
   rw [allE p rf rt xs (i+1)]
   simp [h]
  ·simp [h]
def inH (next:List Int) (n:Int):Bool:=decide (-1≤n∧n≤(next.length:Int) - 1)
def cellsB (h:THeap):Bool:=h.vars.all (inH h.next) && h.next.all (inH h.next)
theorem l7Cells (h:THeap) (hv:small h.vars.length) (hs:small h.next.length):zfa h=some (cellsB h):=by
 have hv':=hv
 have hs':=hs
 unfold small at hv' hs'
 unfold zfa
 rw [zjl h.vars (fun (_:Unit) i=>i) (fun _ _ x=>if inH h.next x then some (.inl ()) else some (.inr (.inl ()))) (fun _=>some (.inr ())) (fun b i x hx=>?_) (fun b=>?_) (),allE]
 ·simp only [Option.bind_some]
  by_cases h1:h.vars.all (inH h.next)=true
  ·rw [if_pos h1]
   simp only [Sum.elim_inr]
   rw [zjl h.next (fun (_:Unit) i=>i) (fun _ _ x=>if inH h.next x then some (.inl ()) else some (.inr (.inl false))) (fun _=>some (.inr ())) (fun b i x hx=>?_) (fun b=>?_) (),allE]
   ·by_cases h2:h.next.all (inH h.next)=true
    ·simp only [h2,if_true,Option.bind_some,Sum.elim_inr,cellsB,h1,Bool.and_self]
    ·simp only [h2,if_false,Option.bind_some,Sum.elim_inl,cellsB,h1,Bool.true_and,Bool.false_eq_true]
   ·have hlt:=(List.getElem?_eq_some_iff.1 hx).1
    simp only [zcn,hx,ltI,zai,Option.bind_some,zdj]
    rw [if_pos (by omega),zam (by omega) (by omega),zec (by omega) (by omega)]
    by_cases h3:-1≤x∧x≤(h.next.length:Int) - 1 <;> simp [inH,h3]
   ·simp [ltI]
  ·rw [if_neg h1]
   simp [cellsB,h1]
 ·have hlt:=(List.getElem?_eq_some_iff.1 hx).1
  simp only [zcn,hx,ltI,zai,Option.bind_some,zdj]
  rw [if_pos (by omega),zam (by omega) (by omega),zec (by omega) (by omega)]
  by_cases h3:-1≤x∧x≤(h.next.length:Int) - 1 <;> simp [inH,h3]
 ·simp [ltI]

theorem indexF {α:Type} (xs:List α) (f:α→Option Bool) (p:α→Bool) (hf:∀ x∈xs,f x=some (p x)) (hl:small xs.length) :
 iter (ρ:=(Int) ⊕ (Unit)) (fun s_1:Int =>
  cond (ltI s_1 (xs.length:Int))
   ((at? xs s_1).bind fun e_12 =>
    (f e_12).bind fun y_17 =>
     cond y_17
      (some (.inr (.inl s_1)))
      (some (.inl (addI s_1 1))))
   (some (.inr (.inr ())))) 0=some (match xs.findIdx? p with | some j=>.inl (j:Int) | none=>.inr ()):=by
 rw [zjl xs (fun (_:Unit) i=>i) (fun _ i x=>if p x=true then some (.inr (.inl (i:Int))) else some (.inl ())) (fun _=>some (.inr ())) (fun b i x hx=>?_) (fun b=>?_) (),findE]
 ·simp
 ·have hlt:=(List.getElem?_eq_some_iff.1 hx).1
  unfold small at hl
  simp only [zcn,hx,Option.bind_some,ltI,zai,hf x (List.mem_of_getElem? hx)]
  rw [if_pos (by omega),zam (by omega) (by omega)]
  cases p x <;> simp
 ·simp [ltI]
theorem zju {α:Type} (xs:List α) (p:α→Bool):leI 0 (match xs.findIdx? p with | some j=>(j:Int) | none=>-1)=xs.any p:=by
 cases h:xs.findIdx? p with
 | none =>
  rw [List.findIdx?_eq_none_iff] at h
  have:xs.any p=false:=List.any_eq_false.2 fun x hx=>by simp [h x hx]
  rw [this];rfl
 | some j =>
  rw [List.findIdx?_eq_some_iff_getElem] at h
  obtain ⟨hj,hp,_⟩:=h
  have:xs.any p=true:=List.any_eq_true.2 ⟨_,List.getElem_mem hj,hp⟩
  rw [this]
  simp [leI]
theorem ziy (xs:List Int) (f:Int→Option Bool) (p:Int→Bool) (hf:∀ x∈xs,f x=some (p x)) (hl:small xs.length):zbb xs f=some (xs.any p):=by
 unfold zbb zef
 rw [indexF xs f p hf hl,← zju]
 cases xs.findIdx? p <;> rfl
theorem znn (xs:List TStructure) (f:TStructure→Option Bool) (p:TStructure→Bool) (hf:∀ x∈xs,f x=some (p x)) (hl:small xs.length):zat xs f=some (xs.any p):=by
 unfold zat zas
 rw [indexF xs f p hf hl,← zju]
 cases xs.findIdx? p <;> rfl
theorem zau {n b:Nat} (hn:n≤4000000) (hb:b≤1000):room n b=some ():=by
 unfold room maxBytes
 have:n * (b+1)≤4000000 * 1001:=Nat.mul_le_mul hn (by omega)
 rw [if_pos (by omega)]
theorem areCells (h:THeap) (hvs:small (h.vars ++ h.next).length) (hv:small h.vars.length) (hs:small h.next.length):zcd h=some (cellsB h):=by
 have hv':=hv
 have hs':=hs
 unfold small at hv' hs'
 have hc:zdo [h.vars,h.next]=some (h.vars ++ h.next):=by
  unfold zdo zkh
  rw [zau (by simp) (by omega),zau (by unfold small at hvs;simpa using hvs) (by omega)]
  simp
 unfold zcd
 rw [hc]
 have hp:∀ n:Int,zbk n h=some (!inH h.next n):=fun n=>by
  unfold zbk
  rw [zjm h n hs]
  by_cases h1:n = -1
  ·simp [neI,h1,inH];omega
  ·simp only [neI,h1,decide_false,Bool.not_false,cond_true,Option.bind_some,Option.some.injEq,inH]
   have:(0≤n∧n < (h.next.length:Int)) ↔ (-1≤n∧n≤(h.next.length:Int) - 1):=by omega
   rw [decide_eq_decide.2 this]
   rfl
 have hcf:zbb (h.vars ++ h.next) (fun x0=>zbk x0 h)=some ((h.vars ++ h.next).any fun n=>!inH h.next n):=by
  exact ziy _ _ _ (fun x _=>hp x) hvs
 simp only [Option.bind_some,hcf,cellsB,List.any_append,Option.some.injEq]
 rw [← List.not_all_eq_any_not,← List.not_all_eq_any_not]
 cases h.vars.all (inH h.next) <;> cases h.next.all (inH h.next) <;> rfl

def push (acc:List Int) (x:Int):List Int:=if x∈acc then acc else acc ++ [x]
def Tot {α:Type} (o:Option α) (Q:α→Prop):Prop:=∃ a,o=some a∧Q a
theorem Tot.ret {α:Type} {a:α} {Q:α→Prop} (h:Q a):Tot (some a) Q:=⟨a,rfl,h⟩
theorem Tot.bind {α β:Type} {o:Option α} {f:α→Option β} {P:α→Prop} {Q:β→Prop} (h:Tot o P) (hf:∀ a,P a→Tot (f a) Q):Tot (o.bind f) Q:=by
 obtain ⟨a,rfl,hP⟩:=h
 exact hf a hP
theorem Tot.mono {α:Type} {o:Option α} {P Q:α→Prop} (h:Tot o P) (hq:∀ a,P a→Q a):Tot o Q:=by
 obtain ⟨a,h1,h2⟩:=h
 exact ⟨a,h1,hq a h2⟩
theorem Tot.eq {α:Type} {o:Option α} {a:α} (h:Tot o (· = a)):o=some a:=by
 obtain ⟨b,h1,rfl⟩:=h
 exact h1
theorem Tot.of {α:Type} {o:Option α} {a:α} {Q:α→Prop} (h:o=some a) (hq:Q a):Tot o Q:=⟨a,h,hq⟩
theorem Tot.loop {σ ρ:Type} {step:σ→Option (σ ⊕ ρ)} {Q:ρ→Prop} (I:Nat→σ→Prop) (n:Nat) {s:σ} (h0:I 0 s)
 (h:∀ i s,I i s→i≤n→Tot (step s) (Sum.elim (fun s'=>i < n∧I (i+1) s') Q)):Tot (iter step s) Q:=by
 have key:∀ (k i:Nat) (s:σ),I i s→i+k=n→Tot (iter step s) Q:=by
  intro k
  induction k with
  | zero =>
   intro i s hI hk
   obtain ⟨o,ho,hq⟩:=h i s hI (by omega)
   cases o with
   | inl s'=>exact absurd hq.1 (by omega)
   | inr r=>exact ⟨r,zdk ho,hq⟩
  | succ k ih =>
   intro i s hI hk
   obtain ⟨o,ho,hq⟩:=h i s hI (by omega)
   cases o with
   | inl s'=>rw [zgs ho];exact ih (i+1) s' hq.2 (by omega)
   | inr r=>exact ⟨r,zdk ho,hq⟩
 exact key n 0 s h0 (by omega)
theorem loop_flat {α γ σ:Type} (S:List γ→Int→σ) (lo:Int) (xs:List α) (g:α→List γ) {acc:List γ} {step:σ→Option (σ ⊕ List γ)}
 (h:∀ (i:Nat) x b,xs[i]?=some x→b.length+(g x).length≤acc.length+(xs.flatMap g).length→step (S b (lo+i))=some (.inl (S (b ++ g x) (lo+i+1))))
 (he:∀ b,step (S b (lo+xs.length))=some (.inr b)):iter step (S acc lo)=some (acc ++ xs.flatMap g):=by
 have key:∀ (suf:List α) (i:Nat) (b:List γ),xs.drop i=suf→i+suf.length=xs.length→b.length+(suf.flatMap g).length=acc.length+(xs.flatMap g).length →
  iter step (S b (lo+i))=some (b ++ suf.flatMap g):=by
  intro suf
  induction suf with
  | nil =>
   intro i b _ hi _
   simp only [List.length_nil,Nat.add_zero] at hi
   subst hi
   rw [zdk (he b)];simp
  | cons x suf ih =>
   intro i b hd hi hb
   have hx:xs[i]?=some x:=by
    have:=congrArg (fun l=>l[0]?) hd
    simpa using this
   have hd2:xs.drop (i+1)=suf:=by
    have:=congrArg List.tail hd
    simpa using this
   simp only [List.length_cons] at hi
   simp only [List.flatMap_cons,List.length_append] at hb
   rw [zgs (h i x b hx (by omega))]
   have:=ih (i+1) (b ++ g x) hd2 (by omega) (by simp only [List.length_append];omega)
   rw [show lo+(i:Int)+1=lo+((i+1:Nat):Int) by omega,this]
   simp
 have:=key xs 0 acc rfl (by simp) rfl
 simpa using this
def Cells (next:List Int):Prop:=∀ x∈next,-1≤x∧x < (next.length:Int)
def lastI (xs:List Int):Int:=xs.getD (xs.length - 1) 0
theorem small_fol {next:List Int} (hs:small next.length) (c:Int):small (folL next c).length:=Nat.le_trans (folL_len next c) hs
theorem zpj (xs:List Int) (h:small xs.length):zci xs=some xs:=by
 unfold zci zlu
 rw [zau h (by omega)]
 rfl
theorem zda {α:Type} {xs:List α} {i:Nat} (h:i < xs.length):xs.take (i+1)=xs.take i ++ [xs[i]]:=by simp
theorem Tot.flat {α γ σ:Type} (S:List γ→Int→σ) (lo:Int) (xs:List α) (g:α→List γ) {acc:List γ} {step:σ→Option (σ ⊕ List γ)} {s:σ} {Q:List γ→Prop} (hs:s=S acc lo) (hQ:Q (acc ++ xs.flatMap g))
 (h:∀ (i:Nat) x b,xs[i]?=some x→b.length+(g x).length≤acc.length+(xs.flatMap g).length→Tot (step (S b (lo+i))) (· = .inl (S (b ++ g x) (lo+i+1))))
 (he:∀ b,Tot (step (S b (lo+xs.length))) (· = .inr b)):Tot (iter step s) Q:=by
 subst hs
 exact Tot.of (loop_flat S lo xs g (fun i x b hx hb=>(h i x b hx hb).eq) fun b=>(he b).eq) hQ
def t3 (b:Bool):Int:=if b then 2 else 0
theorem l3Of_eq (b:Bool):zgc b=some (t3 b):=by cases b <;> rfl
theorem zmi (b:Bool):zdy b=some (t3 b):=by cases b <;> rfl
def nodeOf (h:THeap) (i:Nat):TNode:=⟨h.vars.map fun e=>t3 (decide (e=(i:Int))),h.vars.map fun e=>t3 (decide ((i:Int)∈folL h.next e)),t3 (decide (1 < ((posF (i:Int) 0 h.next).length:Int))),0⟩
def arrowsOf (h:THeap) (i:Nat):List Int:=(List.range h.next.length).map fun j:Nat=>t3 (decide (h.next.getD i 0=(j:Int)))
def strOf (h:THeap):TStructure :=
 if cellsB h then if h.next.length≤10 then if 1≤h.vars.length∧h.vars.length≤4 then ⟨(List.range h.next.length).map (nodeOf h),(List.range h.next.length).flatMap (arrowsOf h)⟩ else ⟨[],[]⟩ else ⟨[],[]⟩ else ⟨[],[]⟩
theorem arrowsOf_len (h:THeap) (i:Nat):(arrowsOf h i).length=h.next.length:=by simp [arrowsOf]
theorem zit {α β:Type} (xs:List α) (f:α→List β) (n:Nat) (h:∀ x∈xs,(f x).length=n):(xs.flatMap f).length=xs.length * n:=by
 induction xs with
 | nil=>simp
 | cons x xs ih =>
  rw [List.flatMap_cons,List.length_append,h x (List.mem_cons_self ..),ih fun y hy=>h y (List.mem_cons_of_mem _ hy),List.length_cons,Nat.add_mul]
  omega
theorem zmw (h:THeap) (m:Nat):((List.range m).flatMap (arrowsOf h)).length=m * h.next.length:=by
 have:=zit (List.range m) (arrowsOf h) h.next.length fun x _=>arrowsOf_len h x
 simpa using this
theorem znk (h:THeap) (hv:small h.vars.length) (hs:small h.next.length):zdc h=some (strOf h):=by
 unfold zdc strOf
 simp only [l7Cells h hv hs,Option.bind_some,zdj]
 cases hc:cellsB h with
 | false=>rfl
 | true =>
  simp only [cond_true,if_true,ltI,zai]
  by_cases h10:h.next.length≤10
  ·rw [if_neg (by omega),if_pos h10]
   by_cases h4:1≤h.vars.length∧h.vars.length≤4
   ·rw [if_pos (by omega),if_pos h4]
    refine Tot.eq (Tot.bind (P:=(· = ((List.range h.next.length).map (nodeOf h),(List.range h.next.length).flatMap (arrowsOf h)))) (Tot.loop (fun i s=>s=((i:Int),(List.range i).map (nodeOf h),(List.range i).flatMap (arrowsOf h))) h.next.length rfl fun i s hI hi=>?_) fun r hr=>by subst hr;exact Tot.ret rfl)
    subst hI
    by_cases hlt:i < h.next.length
    ·simp only [if_pos (show (i:Int) < h.next.length by omega),positions h.next i hs,l3Of_eq,Option.bind_some]
     refine Tot.bind (P:=(· = ((nodeOf h i).vars,(nodeOf h i).reach))) (Tot.loop (fun j s=>s=((j:Int),(h.vars.take j).map (fun e=>t3 (decide (e=(i:Int)))),(h.vars.take j).map (fun e=>t3 (decide ((i:Int)∈folL h.next e))))) h.vars.length (by simp) fun j s hJ hj=>?_) fun r hr=>?_
     ·subst hJ
      by_cases hjl:j < h.vars.length
      ·simp only [if_pos (show (j:Int) < h.vars.length by omega),zcn,List.getElem?_eq_getElem hjl,Option.bind_some,zrb h hs,l7Has _ _ (small_fol hs _),List.length_map,List.length_take,List.length_singleton,eqI,l3Of_eq]
       rw [zau (by omega) (by omega),Option.bind_some,Option.bind_some,zam (by omega) (by omega)]
       exact Tot.ret ⟨hjl,by rw [zda hjl];simp only [List.map_append,List.map_cons,List.map_nil,Int.natCast_add,Int.cast_ofNat_Int]⟩
      ·rw [if_neg (by simp only;omega)]
       have:j=h.vars.length:=by omega
       subst this
       exact Tot.ret (by simp [nodeOf])
     ·subst hr
      simp only [List.length_map,List.length_range,List.length_singleton]
      rw [zau (by omega) (by omega),Option.bind_some]
      have hal:=zmw h i
      have hal2:i * h.next.length≤10 * 10:=Nat.mul_le_mul (by omega) h10
      refine Tot.bind (P:=(· = (List.range (i+1)).flatMap (arrowsOf h))) (Tot.loop (fun j s=>s=((j:Int),(List.range i).flatMap (arrowsOf h) ++ (List.range j).map fun k:Nat=>t3 (decide (h.next.getD i 0=(k:Int))))) h.next.length (by simp) fun j s hJ hj=>?_) fun r hr=>?_
      ·subst hJ
       by_cases hjl:j < h.next.length
       ·have hg:h.next.getD i 0=h.next[i]:=by simp [List.getD,hlt]
        simp only [if_pos (show (j:Int) < h.next.length by omega),zcn,List.getElem?_eq_getElem hlt,Option.bind_some,List.length_append,List.length_map,List.length_range,hal,List.length_singleton,eqI,l3Of_eq]
        rw [zau (by omega) (by omega),Option.bind_some,zam (by omega) (by omega)]
        exact Tot.ret ⟨hjl,by rw [List.range_succ,List.map_append,List.map_cons,List.map_nil,hg,List.append_assoc];rfl⟩
       ·rw [if_neg (by simp only;omega)]
        have:j=h.next.length:=by omega
        subst this
        exact Tot.ret (by simp [List.range_succ,arrowsOf])
      ·subst hr
       rw [zam (by omega) (by omega)]
       exact Tot.ret ⟨hlt,by simp [List.range_succ,nodeOf]⟩
    ·rw [if_neg (by simp only;omega)]
     have:i=h.next.length:=by omega
     subst this
     exact Tot.ret rfl
   ·rw [if_neg (by omega),if_neg h4]
  ·rw [if_pos (by omega),if_neg h10]
theorem znm (h:THeap) (hv:small h.vars.length) (hs:small h.next.length) (hvs:small (h.vars ++ h.next).length):zdg h=some (strOf h):=by
 unfold zdg strOf
 simp only [areCells h hvs hv hs,Option.bind_some,zes]
 cases hc:cellsB h with
 | false=>rfl
 | true =>
  simp only [cond_true,if_true,ltI,zai]
  by_cases h10:h.next.length≤10
  ·rw [if_neg (by omega),if_pos h10]
   by_cases h4:1≤h.vars.length∧h.vars.length≤4
   ·rw [if_pos (by omega),if_pos h4]
    refine Tot.eq (Tot.bind (P:=(· = ((List.range h.next.length).map (nodeOf h),(List.range h.next.length).flatMap (arrowsOf h)))) (Tot.loop (fun i s=>s=((i:Int),(List.range i).map (nodeOf h),(List.range i).flatMap (arrowsOf h))) h.next.length rfl fun i s hI hi=>?_) fun r hr=>by subst hr;exact Tot.ret rfl)
    subst hI
    by_cases hlt:i < h.next.length
    ·simp only [if_pos (show (i:Int) < h.next.length by omega),positions_eq,positions h.next i hs,zmi,Option.bind_some]
     refine Tot.bind (P:=(· = ((nodeOf h i).vars,(nodeOf h i).reach))) (Tot.loop (fun j s=>s=((j:Int),(h.vars.take j).map (fun e=>t3 (decide (e=(i:Int)))),(h.vars.take j).map (fun e=>t3 (decide ((i:Int)∈folL h.next e))))) h.vars.length (by simp) fun j s hJ hj=>?_) fun r hr=>?_
     ·subst hJ
      by_cases hjl:j < h.vars.length
      ·simp only [if_pos (show (j:Int) < h.vars.length by omega),zcn,List.getElem?_eq_getElem hjl,Option.bind_some,zrw h hs,zjt _ _ (small_fol hs _),List.length_map,List.length_take,List.length_singleton,eqI,zmi]
       rw [zau (by omega) (by omega),Option.bind_some,Option.bind_some,zam (by omega) (by omega)]
       exact Tot.ret ⟨hjl,by rw [zda hjl];simp only [List.map_append,List.map_cons,List.map_nil,Int.natCast_add,Int.cast_ofNat_Int]⟩
      ·rw [if_neg (by simp only;omega)]
       have:j=h.vars.length:=by omega
       subst this
       exact Tot.ret (by simp [nodeOf])
     ·subst hr
      simp only [List.length_map,List.length_range,List.length_singleton]
      rw [zau (by omega) (by omega),Option.bind_some]
      have hal:=zmw h i
      have hal2:i * h.next.length≤10 * 10:=Nat.mul_le_mul (by omega) h10
      refine Tot.bind (P:=(· = (List.range (i+1)).flatMap (arrowsOf h))) (Tot.loop (fun j s=>s=((j:Int),(List.range i).flatMap (arrowsOf h) ++ (List.range j).map fun k:Nat=>t3 (decide (h.next.getD i 0=(k:Int))))) h.next.length (by simp) fun j s hJ hj=>?_) fun r hr=>?_
      ·subst hJ
       by_cases hjl:j < h.next.length
       ·have hg:h.next.getD i 0=h.next[i]:=by simp [List.getD,hlt]
        simp only [if_pos (show (j:Int) < h.next.length by omega),zcn,List.getElem?_eq_getElem hlt,Option.bind_some,List.length_append,List.length_map,List.length_range,hal,List.length_singleton,eqI,zmi]
        rw [zau (by omega) (by omega),Option.bind_some,zam (by omega) (by omega)]
        exact Tot.ret ⟨hjl,by rw [List.range_succ,List.map_append,List.map_cons,List.map_nil,hg,List.append_assoc];rfl⟩
       ·rw [if_neg (by simp only;omega)]
        have:j=h.next.length:=by omega
        subst this
        exact Tot.ret (by simp [List.range_succ,arrowsOf])
      ·subst hr
       rw [zam (by omega) (by omega)]
       exact Tot.ret ⟨hlt,by simp [List.range_succ,nodeOf]⟩
    ·rw [if_neg (by simp only;omega)]
     have:i=h.next.length:=by omega
     subst this
     exact Tot.ret rfl
   ·rw [if_neg (by omega),if_neg h4]
  ·rw [if_pos (by omega),if_neg h10]
def firstR {ρ υ:Type} (o:Option ρ) (u:υ):ρ ⊕ υ:=match o with | some r=>.inl r | none=>.inr u
theorem Tot.first {ρ υ:Type} {step:Int→Option (Int ⊕ (ρ ⊕ υ))} {Q:ρ ⊕ υ→Prop} (n:Nat) (F:Nat→Option ρ) (u:υ)
 (h:∀ i:Nat,i < n→Tot (step i) (· = (match F i with | none=>.inl ((i:Int)+1) | some r=>.inr (.inl r)))) (he:Tot (step n) (· = .inr (.inr u)))
 (hQ:Q (firstR ((List.range n).findSome? F) u)):Tot (iter step 0) Q:=by
 refine Tot.loop (fun i s=>s=(i:Int)∧∀ j,j < i→F j=none) n ⟨rfl,fun j hj=>absurd hj (Nat.not_lt_zero _)⟩ fun i s hI hi=>?_
 obtain ⟨rfl,hI⟩:=hI
 by_cases hlt:i < n
 ·refine (h i hlt).mono fun o ho=>?_
  subst ho
  cases hF:F i with
  | none =>
   refine ⟨hlt,rfl,fun j hj=>?_⟩
   by_cases hji:j=i
   ·subst hji;exact hF
   ·exact hI j (by omega)
  | some r =>
   have:(List.range n).findSome? F=some r:=by
    rw [List.findSome?_eq_some_iff]
    refine ⟨List.range i,i,(List.range' (i+1) (n - i - 1)),?_,hF,fun j hj=>hI j (List.mem_range.1 hj)⟩
    rw [List.range_eq_range',List.range_eq_range',← List.range'_succ,show n - i - 1+1=n - i by omega]
    have:=@List.range'_append 0 i (n - i) 1
    simp only [Nat.one_mul,Nat.zero_add] at this
    rw [this]
    congr 1
    omega
   rw [this] at hQ
   exact hQ
 ·have:i=n:=by omega
  subst this
  refine he.mono fun o ho=>?_
  subst ho
  have:(List.range i).findSome? F=none:=by
   rw [List.findSome?_eq_none_iff]
   exact fun j hj=>hI j (List.mem_range.1 hj)
  rw [this] at hQ
  exact hQ
theorem zng {ρ:Type} (p:Nat→Bool) (r:ρ):∀ xs:List Nat,xs.findSome? (fun i=>if p i then none else some r)=if xs.all p then none else some r
 | []=>rfl
 | x :: xs=>by
  rw [List.findSome?_cons,zng p r xs]
  cases h:p x <;> simp [h]
theorem Tot.all {ρ υ:Type} {step:Int→Option (Int ⊕ (ρ ⊕ υ))} {Q:ρ ⊕ υ→Prop} (n:Nat) (p:Nat→Bool) (r:ρ) (u:υ)
 (h:∀ i:Nat,i < n→Tot (step i) (· = (if p i then .inl ((i:Int)+1) else .inr (.inl r)))) (he:Tot (step n) (· = .inr (.inr u)))
 (hQ:Q (if (List.range n).all p then .inr u else .inl r)):Tot (iter step 0) Q:=by
 refine Tot.first n (fun i=>if p i then none else some r) u (fun i hi=>?_) he ?_
 ·refine (h i hi).mono fun o ho=>?_
  rw [ho]
  cases p i <;> rfl
 ·rw [zng]
  cases h:(List.range n).all p <;> simpa [h,firstR] using hQ

def wB (a b:Int):Bool:=decide (0≤a∧a≤2) && (decide (0≤b∧b≤2) && (decide (b=1) || decide (a=b)))
def listW (a b:List Int):Bool:=decide (a.length=b.length) && (List.range a.length).all fun i=>wB (a.getD i 0) (b.getD i 0)
theorem zsb {α:Type} {xs:List α} {i:Nat} (h:i < xs.length) (d:α):at? xs (i:Int)=some (xs.getD i d):=by
 rw [zcn,List.getElem?_eq_getElem h];simp [List.getD,h]
def zN:TNode:=⟨[],[],0,0⟩
def nodeW (x y:TNode):Bool:=listW x.vars y.vars && (listW x.reach y.reach && (wB x.shared y.shared && wB x.many y.many))
def okN (x:TNode):Prop:=small x.vars.length∧small x.reach.length
def nextV (s:TStructure) (i j:Int):Int :=
 if 0≤i∧i≤(s.nodes.length:Int) - 1 then if 0≤j∧j≤(s.nodes.length:Int) - 1 then if s.next.length=s.nodes.length * s.nodes.length then s.next.getD (i * s.nodes.length+j).toNat 0 else 1 else 1 else 1
theorem zqz {n:Nat} (h:small n):n * n≤16000000000000:=Nat.le_trans (Nat.mul_le_mul h h) (by decide)
theorem place_in {n:Nat} {i j:Int} (hi:0≤i∧i≤(n:Int) - 1) (hj:0≤j∧j≤(n:Int) - 1):0≤i * n∧i * n+j < ((n * n:Nat):Int):=by
 have h1:i * n≤((n:Int) - 1) * n:=Int.mul_le_mul_of_nonneg_right hi.2 (by omega)
 have h2:0≤i * (n:Int):=Int.mul_nonneg hi.1 (by omega)
 rw [Int.sub_mul,Int.one_mul] at h1
 have h3:((n * n:Nat):Int)=(n:Int) * n:=by simp
 omega
theorem zim (s:TStructure) (i j:Int) (hs:small s.nodes.length):zco s i j=some (nextV s i j):=by
 unfold zco nextV
 have hq:=zqz hs
 have hs':=hs
 unfold small at hs'
 rw [zdj,zdj,zec (by omega) (by omega)]
 have h3:((s.nodes.length * s.nodes.length:Nat):Int)=(s.nodes.length:Int) * s.nodes.length:=by simp
 rw [zjh (by omega) (by omega)]
 simp only [Option.bind_some,zai,neI,zet]
 by_cases hi:0≤i∧i≤(s.nodes.length:Int) - 1
 ·rw [if_pos hi,if_pos hi]
  by_cases hj:0≤j∧j≤(s.nodes.length:Int) - 1
  ·rw [if_pos hj,if_pos hj]
   by_cases hn:s.next.length=s.nodes.length * s.nodes.length
   ·obtain ⟨p1,p2⟩:=place_in hi hj
    rw [if_pos (by omega),if_pos hn,zjh (by omega) (by omega),zam (by omega) (by omega),at_in (by omega)]
    rfl
   ·rw [if_neg (by omega),if_neg hn]
  ·rw [if_neg hj,if_neg hj]
 ·rw [if_neg hi,if_neg hi]
theorem zpd (s:TStructure) (i j:Int) (hs:small s.nodes.length):zdp s i j=some (nextV s i j):=by
 rw [← zim s i j hs]
 unfold zdp zco zao
 simp only [zes,zdj,Option.bind_some]
def roundB (s t:TStructure) (to:List Int) (j:Nat):Bool :=
 wB (nextV s ((to.length:Int) - 1) j) (nextV t (lastI to) (to.getD j 0)) && (wB (nextV s j ((to.length:Int) - 1)) (nextV t (to.getD j 0) (lastI to)) && !(decide (j+1 < to.length) && (decide (to.getD j 0=lastI to) && !decide ((t.nodes.getD (lastI to).toNat zN).many=1))))
def fitB (s t:TStructure) (to:List Int):Bool:=nodeW (s.nodes.getD (to.length - 1) zN) (t.nodes.getD (lastI to).toNat zN) && (List.range to.length).all (roundB s t to)
def okS (s:TStructure):Prop:=small s.nodes.length∧∀ n∈s.nodes,okN n
theorem at_in' {α:Type} {xs:List α} {c:Int} (h:0≤c∧c < (xs.length:Int)) (d:α):at? xs c=some (xs.getD c.toNat d):=by
 unfold at?
 rw [if_pos h.1]
 have:c.toNat < xs.length:=by omega
 simp [List.getD,List.getElem?_eq_getElem this]
def rngT (t:TStructure) (to:List Int):Prop:=∀ x∈to,0≤x∧x < (t.nodes.length:Int)
def pre (s t:TStructure) (to:List Int):Prop:=to.length≤s.nodes.length∧rngT t to∧∀ i,i < to.length→fitB s t (to.take (i+1))=true
open Wf (wf)
open Sm (sm lg)
theorem cntI_len (xs:List Int):zbi xs=xs.length:=by
 unfold zbi totC
 induction xs with
 | nil=>rfl
 | cons x xs ih =>
  rw [List.map_cons,List.sum_cons,ih,List.length_cons]
  show 1+xs.length=xs.length+1
  omega
theorem cntI_len' (xs:List Int):zbi xs=xs.length:=by
 unfold zbi totC
 induction xs with
 | nil=>rfl
 | cons x xs ih =>
  rw [List.map_cons,List.sum_cons,ih,List.length_cons]
  show 1+xs.length=xs.length+1
  omega
theorem cnt_nodes {xs:List TNode} (h:sm xs):zev xs≤2200000000000:=by
 have:=zqs zdn 2097154 xs fun x hx=>by
  have hx:=h.2 x hx
  unfold zdn
  rw [cntI_len',cntI_len']
  have:=hx.1.1
  have:=hx.2.1
  omega
 refine Nat.le_trans this (Nat.le_trans (Nat.mul_le_mul_right _ h.1) (by decide))
theorem cnt_str {s:TStructure} (h:sm s):zev s.nodes+zbi s.next≤2200001048576:=by
 have h1:=cnt_nodes h.1
 rw [cntI_len']
 have:=h.2.1
 omega
open Wf (wf)
open Sm (sm lg)
open Wf (wf)
open Sm (sm lg)
open Wf (wf)
open Sm (sm lg)
def truthsB (xs:List Int):Bool:=xs.all fun x=>decide (0≤x∧x≤2)
theorem all_range {α:Type} (xs:List α) (p:α→Bool) (d:α):(List.range xs.length).all (fun i=>p (xs.getD i d))=xs.all p:=by
 have h:(List.range xs.length).map (fun i=>xs.getD i d)=xs:=by
  apply List.ext_getElem
  ·simp
  ·intro i h1 h2
   simp [List.getD,h2]
 have h2:((List.range xs.length).map (fun i=>xs.getD i d)).all p=(List.range xs.length).all (fun i=>p (xs.getD i d)):=by rw [List.all_map];rfl
 rw [h] at h2
 exact h2.symm
theorem zks (xs:List Int) (h:small xs.length):zct xs=some (truthsB xs):=by
 unfold small at h
 unfold zct
 refine Tot.eq (Tot.bind (P:=(· = if truthsB xs then .inr () else .inl ())) (Tot.all xs.length (fun i=>decide (0≤xs.getD i 0∧xs.getD i 0≤2)) () () (fun i hi=>?_) ?_ ?_) fun r hr=>?_)
 ·simp only [ltI,zai,zsb hi 0,Option.bind_some,zbm,zdj]
  rw [if_pos (by omega),zam (by omega) (by omega)]
  by_cases hc:0≤xs.getD i 0∧xs.getD i 0≤2
  ·rw [if_pos hc,if_pos (by simpa using hc)];exact Tot.ret rfl
  ·rw [if_neg hc,if_neg (by simpa using hc)];exact Tot.ret rfl
 ·simp only [ltI,zai]
  rw [if_neg (by omega)]
  exact Tot.ret rfl
 ·rw [all_range xs (fun x=>decide (0≤x∧x≤2)) 0]
  rfl
 ·subst hr
  cases truthsB xs <;> exact Tot.ret rfl
theorem zkx (xs:List Int) (h:small xs.length):zcw xs=some (truthsB xs):=by
 unfold zcw
 rw [ziy xs (fun x0=>zdu x0) (fun x=>!decide (0≤x∧x≤2)) (fun x _=>by unfold zdu zcj;rw [zes];rfl) h]
 simp only [Option.bind_some,Option.some.injEq,notB,truthsB]
 rw [List.not_any_eq_all_not]
 congr 1
 funext x
 simp
def nodeOkB (vars:Int) (x:TNode):Bool:=decide ((x.vars.length:Int)=vars) && (decide ((x.reach.length:Int)=vars) && (truthsB x.vars && (truthsB x.reach && (decide (0≤x.shared∧x.shared≤2) && decide (0≤x.many∧x.many≤1)))))
def isStrB (vars:Int) (s:TStructure):Bool:=decide (1≤vars∧vars≤4) && (decide (s.nodes.length≤10) && (decide (s.next.length=s.nodes.length * s.nodes.length) && (truthsB s.next && s.nodes.all (nodeOkB vars))))
structure shortS (s:TStructure):Prop where
 n:small s.nodes.length
 x:small s.next.length
 e:∀ y∈s.nodes,okN y
theorem shortS.ok {s:TStructure} (h:shortS s):okS s:=⟨h.n,h.e⟩
theorem zfk {s:TStructure} (h:sm s):shortS s:=⟨by have:=h.1.1;unfold small;omega,by have:=h.2.1;unfold small;omega,fun y hy=>⟨by have:=(h.1.2 y hy).1.1;unfold small;omega,by have:=(h.1.2 y hy).2.1;unfold small;omega⟩⟩
theorem zha (vars:Int) (s:TStructure) (h:shortS s):zcg vars s=some (isStrB vars s):=by
 have hn:=h.n
 have hq:=zqz hn
 unfold small at hn
 unfold zcg
 refine Tot.eq (Tot.bind (P:=(· = if s.nodes.all (nodeOkB vars) then .inr () else .inl ())) (Tot.all s.nodes.length (fun i=>nodeOkB vars (s.nodes.getD i zN)) () () (fun i hi=>?_) ?_ ?_) fun r hr=>?_)
 ·have hm:s.nodes.getD i zN∈s.nodes:=by simp [List.getD,hi]
  have ho:=h.e _ hm
  simp only [ltI,zai,zsb hi zN,Option.bind_some]
  rw [if_pos (by omega),zam (by omega) (by omega)]
  generalize s.nodes.getD i zN=y at *
  simp only [neI,zet,zks _ ho.1,zks _ ho.2,zbm,zdj,Option.bind_some,zai]
  unfold nodeOkB
  by_cases h1:(y.vars.length:Int)=vars
  ·rw [if_pos h1,decide_eq_true h1]
   by_cases h2:(y.reach.length:Int)=vars
   ·rw [if_pos h2,decide_eq_true h2]
    cases truthsB y.vars <;> cases truthsB y.reach <;> try exact Tot.ret rfl
    simp only [cond_true,Bool.true_and]
    by_cases h3:0≤y.shared∧y.shared≤2
    ·rw [if_pos h3,decide_eq_true h3]
     by_cases h4:0≤y.many∧y.many≤1
     ·rw [if_pos h4,decide_eq_true h4];exact Tot.ret rfl
     ·rw [if_neg h4,decide_eq_false h4];exact Tot.ret rfl
    ·rw [if_neg h3,decide_eq_false h3];exact Tot.ret rfl
   ·rw [if_neg h2,decide_eq_false h2];exact Tot.ret rfl
  ·rw [if_neg h1,decide_eq_false h1];exact Tot.ret rfl
 ·simp only [ltI,zai]
  rw [if_neg (by omega)]
  exact Tot.ret rfl
 ·rw [all_range s.nodes (nodeOkB vars) zN]
 ·subst hr
  have h3:((s.nodes.length * s.nodes.length:Nat):Int)=(s.nodes.length:Int) * s.nodes.length:=by simp
  unfold isStrB
  cases hall:s.nodes.all (nodeOkB vars) with
  | false=>simp only [Bool.and_false];exact Tot.ret rfl
  | true =>
   simp only [if_true,Sum.elim_inr,zdj,Option.bind_some,zai,leI,eqI,zks _ h.x,Bool.and_true]
   rw [zjh (by omega) (by omega)]
   by_cases h1:1≤vars∧vars≤4
   ·rw [if_pos h1,decide_eq_true h1,Bool.true_and]
    by_cases h2:s.nodes.length≤10
    ·rw [if_pos (by omega),decide_eq_true h2,Bool.true_and]
     by_cases h4:s.next.length=s.nodes.length * s.nodes.length
     ·rw [if_pos (by omega),decide_eq_true h4,Bool.true_and];exact Tot.ret rfl
     ·rw [if_neg (by omega),decide_eq_false h4];exact Tot.ret rfl
    ·rw [if_neg (by omega),decide_eq_false h2];exact Tot.ret rfl
   ·rw [if_neg h1,decide_eq_false h1];exact Tot.ret rfl
theorem zmt (xs:List TNode) (f:TNode→Option Bool) (p:TNode→Bool) (hf:∀ x∈xs,f x=some (p x)) (hl:small xs.length):zbv xs f=some (xs.any p):=by
 unfold zbv zdw
 rw [indexF xs f p hf hl,← zju]
 cases xs.findIdx? p <;> rfl
theorem zhb (vars:Int) (s:TStructure) (h:shortS s):zck vars s=some (isStrB vars s):=by
 have hn:=h.n
 have hq:=zqz hn
 unfold small at hn
 have h3:((s.nodes.length * s.nodes.length:Nat):Int)=(s.nodes.length:Int) * s.nodes.length:=by simp
 have hc:=zmt s.nodes (fun x0=>zdb x0 vars) (fun y=>!nodeOkB vars y) (fun y hy=>by
  have ho:=h.e y hy
  unfold zdb nodeOkB
  simp only [neI,zet,zkx _ ho.1,zkx _ ho.2,zcj,zes,Option.bind_some,zai]
  by_cases h1:(y.vars.length:Int)=vars
  ·rw [if_pos h1,decide_eq_true h1]
   by_cases h2:(y.reach.length:Int)=vars
   ·rw [if_pos h2,decide_eq_true h2]
    cases truthsB y.vars <;> cases truthsB y.reach <;> try rfl
    simp only [cond_true,Bool.true_and]
    by_cases h3:0≤y.shared∧y.shared≤2
    ·rw [if_pos h3,decide_eq_true h3]
     by_cases h4:y.many=0
     ·rw [if_pos h4];simp [h4]
     ·rw [if_neg h4]
      by_cases h5:y.many=1
      ·simp [h5]
      ·have:¬ (0≤y.many∧y.many≤1):=by omega
       simp [h5,this]
    ·rw [if_neg h3,decide_eq_false h3];rfl
   ·rw [if_neg h2,decide_eq_false h2];rfl
  ·rw [if_neg h1,decide_eq_false h1];rfl) h.n
 unfold zck isStrB
 simp only [zes,Option.bind_some,zai,ltI,neI,zet,zkx _ h.x]
 rw [zjh (by omega) (by omega)]
 by_cases h1:1≤vars∧vars≤4
 ·rw [if_pos h1,decide_eq_true h1,Bool.true_and]
  by_cases h2:s.nodes.length≤10
  ·rw [if_neg (by omega),decide_eq_true h2,Bool.true_and]
   by_cases h4:s.next.length=s.nodes.length * s.nodes.length
   ·rw [if_pos (by omega),decide_eq_true h4,Bool.true_and]
    cases truthsB s.next with
    | false=>rfl
    | true =>
     rw [cond_true,hc]
     simp only [Option.bind_some,notB,Bool.true_and,Option.some.injEq]
     rw [List.not_any_eq_all_not]
     congr 1
     funext y
     simp
   ·rw [if_neg (by omega),decide_eq_false h4];rfl
  ·rw [if_pos (by omega),decide_eq_false h2];rfl
 ·rw [if_neg h1,decide_eq_false h1];rfl
theorem copyNode (y:TNode) (h:okN y):zcf y=some y:=by
 have h1:=h.1
 have h2:=h.2
 unfold small at h1 h2
 unfold zcf
 simp only [List.length_nil,Nat.zero_add]
 rw [zau (by omega) (by omega),Option.bind_some,zau (by omega) (by omega)]
 rfl
theorem ownNode (y:TNode) (h:okN y):zdl y=some y:=by
 unfold zdl
 rw [zpj _ h.1,Option.bind_some,zpj _ h.2]
 rfl
theorem zof (s:TStructure) (h:shortS s):zbt s=some s:=by
 have hn:=h.n
 have hx:=h.x
 unfold small at hn hx
 unfold zbt
 simp only [List.length_nil,Nat.zero_add]
 rw [zau (by omega) (by omega),Option.bind_some]
 refine Tot.eq (Tot.bind (P:=(· = s.nodes)) (Tot.loop (fun i q=>q=((i:Int),s.nodes.take i)) s.nodes.length (by simp) fun i q hI hi=>?_) fun r hr=>by subst hr;exact Tot.ret rfl)
 subst hI
 by_cases hlt:i < s.nodes.length
 ·simp only [ltI,zai,zcn,List.getElem?_eq_getElem hlt,Option.bind_some,copyNode _ (h.e _ (List.getElem_mem hlt)),List.length_take,List.length_singleton]
  rw [if_pos (by omega),zau (by omega) (by omega),Option.bind_some,zam (by omega) (by omega)]
  exact Tot.ret ⟨hlt,by rw [zda hlt];rfl⟩
 ·simp only [ltI,zai]
  rw [if_neg (by omega)]
  exact Tot.ret (List.take_of_length_le (by omega))
theorem impl_owns (s:TStructure) (h:shortS s):zbo s=some s:=by
 have hn:=h.n
 unfold small at hn
 unfold zbo
 rw [zpj _ h.x,Option.bind_some]
 refine Tot.eq (Tot.bind (P:=(· = s.nodes)) (Tot.loop (fun i q=>q=((i:Int),s.nodes.take i)) s.nodes.length (by simp) fun i q hI hi=>?_) fun r hr=>by subst hr;exact Tot.ret rfl)
 subst hI
 by_cases hlt:i < s.nodes.length
 ·simp only [ltI,zai,zcn,List.getElem?_eq_getElem hlt,Option.bind_some,ownNode _ (h.e _ (List.getElem_mem hlt)),List.length_take,List.length_singleton]
  rw [if_pos (by omega),zau (by omega) (by omega),Option.bind_some,zam (by omega) (by omega)]
  exact Tot.ret ⟨hlt,by rw [zda hlt];rfl⟩
 ·simp only [ltI,zai]
  rw [if_neg (by omega)]
  exact Tot.ret (List.take_of_length_le (by omega))
open Wf (wf)
open Sm (sm lg)
def frm (n:Nat) (t:Int) (i:Nat):Int:=if i=n then t else (i:Int)
open Wf (wf)
open Sm (sm lg)
structure Foc (s:TStructure) (b:Int) (ts:List Int):Prop where
 sh:shortS s
 n10:s.nodes.length≤10
 sq:s.next.length=s.nodes.length * s.nodes.length
 b:0≤b∧b < (s.nodes.length:Int)
 t:∀ t∈ts,0≤t∧t < (s.nodes.length:Int)
 l:ts.length≤10
def varsF (s:TStructure):Int:=match s.nodes with | []=>0 | x :: _=>(x.vars.length:Int)
theorem zjc (s:TStructure):zcy s=some (varsF s):=by
 unfold zcy varsF
 cases h:s.nodes with
 | nil=>rfl
 | cons x xs =>
  simp only [eqI,zai]
  rw [if_neg (by simp only [List.length_cons];omega),show (0:Int)=((0:Nat):Int) from rfl,zcn]
  rfl
theorem zhl:zcv=zcy:=rfl
end Go.Ev


namespace Go.Ev
open Wf (wf)
open Sm (sm lg)

structure okB (s:TStructure):Prop where
 sh:shortS s
 v:1≤varsF s∧varsF s≤4
 n:s.nodes.length≤10
 z:1≤s.nodes.length
 e:∀ x∈s.nodes,(x.vars.length:Int)=varsF s∧(x.reach.length:Int)=varsF s
theorem okB_of {s:TStructure} (h:shortS s) (hs:isStrB (varsF s) s=true) (h0:¬ s.nodes.length=0):okB s:=by
 unfold isStrB at hs
 simp only [Bool.and_eq_true,decide_eq_true_eq,List.all_eq_true] at hs
 refine ⟨h,hs.1,hs.2.1,by omega,fun x hx=>?_⟩
 have:=hs.2.2.2.2 x hx
 unfold nodeOkB at this
 simp only [Bool.and_eq_true,decide_eq_true_eq] at this
 exact ⟨this.1,this.2.1⟩
theorem zhc {s:TStructure} {i:Int} (h:0≤i∧i < (s.nodes.length:Int)):s.nodes.getD i.toNat zN∈s.nodes:=by
 have:i.toNat < s.nodes.length:=by omega
 simp [List.getD,this]

def predV (s:TStructure) (k i:Int):Int :=
 if k≤varsF s - 1 then (s.nodes.getD i.toNat zN).vars.getD k.toNat 0 else if k≤2 * varsF s - 1 then (s.nodes.getD i.toNat zN).reach.getD (k - varsF s).toNat 0 else (s.nodes.getD i.toNat zN).shared
theorem l13At_in {l:List Int} {k:Int} (hl:small l.length) (h:0≤k∧k < (l.length:Int)):zga l k=some (l.getD k.toNat 0):=by
 unfold small at hl
 unfold zga
 rw [zdj,zec (by omega) (by omega)]
 simp only [Option.bind_some,zai]
 rw [if_pos (by omega),at_in' h 0]
 rfl
theorem spec_pred {s:TStructure} (hs:okB s) {k i:Int} (hi:0≤i∧i < (s.nodes.length:Int)) (hk:0≤k∧k≤2 * varsF s):zdd s k i=some (predV s k i):=by
 have hv:=hs.v
 have hn:=hs.n
 obtain ⟨e1,e2⟩:=hs.e _ (zhc hi)
 obtain ⟨o1,o2⟩:=hs.sh.e _ (zhc hi)
 unfold zdd predV
 rw [zjc,Option.bind_some,zdj,zdj,zdj,zec (by omega) (by omega),zec (by omega) (by omega),zjh (by omega) (by omega),zec (by omega) (by omega)]
 simp only [Option.bind_some,zai]
 rw [if_pos (by omega)]
 by_cases h1:k≤varsF s - 1
 ·rw [if_pos (by omega),if_pos h1,at_in' hi zN,Option.bind_some,l13At_in o1 (by omega)]
  rfl
 ·rw [if_neg (by omega),if_neg h1]
  by_cases h2:k≤2 * varsF s - 1
  ·rw [if_pos (by omega),if_pos h2,at_in' hi zN,Option.bind_some,zec (by omega) (by omega),l13At_in o2 (by omega)]
   rfl
  ·rw [if_neg (by omega),if_neg h2]
   simp only [eqI,zai]
   rw [if_pos (by omega),at_in' hi zN]
   rfl
theorem impl_pred {s:TStructure} (hs:okB s) {k i:Int} (hi:0≤i∧i < (s.nodes.length:Int)) (hk:0≤k∧k≤2 * varsF s):zdh s k i=some (predV s k i):=by
 have hv:=hs.v
 have hn:=hs.n
 obtain ⟨e1,e2⟩:=hs.e _ (zhc hi)
 unfold zdh predV zao
 rw [zhl,zjc,Option.bind_some,zes,zec (by omega) (by omega),zjh (by omega) (by omega)]
 simp only [Option.bind_some,zai,eqI,at_in' hi zN,zes]
 rw [if_pos (by omega)]
 by_cases h3:k=2 * varsF s
 ·rw [if_pos h3,if_neg (by omega),if_neg (by omega)]
 ·rw [if_neg h3,zec (by omega) (by omega),zec (by omega) (by omega),zec (by omega) (by omega)]
  by_cases h1:k≤varsF s - 1
  ·rw [if_pos (by omega),if_pos h1,if_pos (by omega),at_in' (by omega) 0]
   rfl
  ·rw [if_neg (by omega),if_neg h1,if_pos (by omega),zec (by omega) (by omega),zec (by omega) (by omega),if_pos (by omega),at_in' (by omega) 0,if_pos (by omega)]
   rfl

def txtF (a:Int):ByteArray:=if 0≤a∧a≤2 then (⟨#[48,63,49]⟩:ByteArray).extract a.toNat (a+1).toNat else ⟨#[]⟩
theorem zlk (a:Int):zbz a=some (txtF a):=by
 unfold zbz txtF zbm
 rw [zdj]
 simp only [Option.bind_some,zai]
 by_cases h:0≤a∧a≤2
 ·rw [if_pos h,if_pos h,zam (by omega) (by omega)]
  unfold sub?
  rw [if_pos ⟨h.1,by omega,by show a+1≤3;omega⟩]
  rfl
 ·rw [if_neg h,if_neg h]
theorem impl_txt (a:Int):zdm a=some (txtF a):=by
 rw [← zlk]
 unfold zdm zbz
 rw [zqi]
theorem zhm (a:Int):(txtF a).size≤1:=by
 unfold txtF
 split
 ·rw [ByteArray.size_extract]
  have:(⟨#[48,63,49]⟩:ByteArray).size=3:=rfl
  omega
 ·exact Nat.zero_le _
def nameK (s:TStructure) (i:Int):Nat→ByteArray
 | 0=>⟨#[]⟩
 | k+1=>nameK s i k ++ txtF (predV s k i)
theorem zke (s:TStructure) (i:Int):∀ k,(nameK s i k).size≤k
 | 0=>Nat.le_refl _
 | k+1=>by
  rw [nameK,ByteArray.size_append]
  have:=zke s i k
  have:=zhm (predV s k i)
  omega
def nameF (s:TStructure) (i:Int):ByteArray:=nameK s i (2 * varsF s+1).toNat
theorem spec_name {s:TStructure} (hs:okB s) {i:Int} (hi:0≤i∧i < (s.nodes.length:Int)):zen s i=some (nameF s i):=by
 have hv:=hs.v
 have hn:=hs.n
 have hz:=hs.z
 have hcp:zbj s=some (2 * varsF s+1):=by
  unfold zbj
  simp only [eqI,zai]
  rw [if_neg (by omega),zjc,Option.bind_some,zjh (by omega) (by omega),zam (by omega) (by omega)]
 unfold zen
 rw [zdj,zec (by omega) (by omega)]
 simp only [Option.bind_some,zai,hcp]
 rw [if_pos (by omega)]
 refine Tot.eq (Tot.bind (P:=(· = nameF s i)) (Tot.loop (fun k q=>q=(nameK s i k,(k:Int))) (2 * varsF s+1).toNat rfl fun k q hI hk=>?_) fun r hr=>by subst hr;exact Tot.ret rfl)
 subst hI
 by_cases hlt:(k:Int) < 2 * varsF s+1
 ·simp only [ltI,zai]
  rw [if_pos hlt,spec_pred hs hi (by omega),Option.bind_some,zlk,Option.bind_some]
  have h1:=zke s i k
  have h2:=zhm (predV s k i)
  unfold catS
  rw [if_pos (by omega),Option.bind_some,zam (by omega) (by omega)]
  exact Tot.ret ⟨by omega,rfl⟩
 ·simp only [ltI,zai]
  rw [if_neg hlt]
  have:k=(2 * varsF s+1).toNat:=by omega
  subst this
  exact Tot.ret rfl
theorem impl_name {s:TStructure} (hs:okB s) {i:Int} (hi:0≤i∧i < (s.nodes.length:Int)):zea s i=some (nameF s i):=by
 have hv:=hs.v
 have hn:=hs.n
 have hz:=hs.z
 have hcp:zbl s=some (2 * varsF s+1):=by
  unfold zbl
  simp only [eqI,zai]
  rw [if_neg (by omega),zhl,zjc,Option.bind_some,zjh (by omega) (by omega),zam (by omega) (by omega)]
 unfold zea zao
 rw [zes,zec (by omega) (by omega)]
 simp only [Option.bind_some,zai,hcp]
 rw [if_pos (by omega)]
 refine Tot.eq (Tot.bind (P:=(· = nameF s i)) (Tot.loop (fun k q=>q=(nameK s i k,(k:Int))) (2 * varsF s+1).toNat rfl fun k q hI hk=>?_) fun r hr=>by subst hr;exact Tot.ret rfl)
 subst hI
 by_cases hlt:(k:Int) < 2 * varsF s+1
 ·simp only [ltI,zai]
  rw [if_pos hlt,impl_pred hs hi (by omega),Option.bind_some,impl_txt,Option.bind_some]
  have h1:=zke s i k
  have h2:=zhm (predV s k i)
  unfold catS
  rw [if_pos (by omega),Option.bind_some,zam (by omega) (by omega)]
  exact Tot.ret ⟨by omega,rfl⟩
 ·simp only [ltI,zai]
  rw [if_neg hlt]
  have:k=(2 * varsF s+1).toNat:=by omega
  subst this
  exact Tot.ret rfl
theorem name_size {s:TStructure} (hs:okB s) (i:Int):(nameF s i).size≤9:=by
 have:=zke s i (2 * varsF s+1).toNat
 have:=hs.v
 unfold nameF
 omega
def namesL (s:TStructure) (k:Nat):List ByteArray:=(List.range k).map fun i:Nat=>nameF s (i:Int)
theorem zrp {s:TStructure} {nm:TStructure→Int→Option ByteArray} (h:∀ i:Nat,i < s.nodes.length→nm s (i:Int)=some (nameF s (i:Int))):∀ k,k≤s.nodes.length→namesT (nm s) k=some (namesL s k)
 | 0,_=>rfl
 | k+1,hk=>by
  rw [namesT,zrp h k (by omega),Option.bind_some,h k (by omega),Option.bind_some]
  unfold namesL
  rw [List.range_succ,List.map_append]
  rfl
theorem names_few {s:TStructure} (hs:okB s):few (namesL s s.nodes.length)=true:=by
 unfold few
 rw [Bool.and_eq_true,List.all_eq_true]
 have hn:=hs.n
 refine ⟨by simp [namesL];omega,fun x hx=>?_⟩
 unfold namesL at hx
 obtain ⟨i,_,rfl⟩:=List.mem_map.1 hx
 have:=name_size hs (i:Int)
 simp
 omega
end Go.Ev


namespace Go.Ev
open Wf (wf)
open Sm (sm lg)

def joinV (a b:Int):Int:=if a=b then (if 0≤a∧a≤2 then a else 1) else 1
theorem spec_join (a b:Int):zfc a b=some (joinV a b):=by
 unfold zfc joinV zbm
 rw [zdj]
 simp only [Option.bind_some,zai,neI,zet]
 by_cases h:a=b
 ·rw [if_pos h,if_pos h]
  by_cases h1:0≤a∧a≤2
  ·rw [if_pos h1,if_pos h1]
  ·rw [if_neg h1,if_neg h1]
 ·rw [if_neg h,if_neg h]
theorem impl_join (a b:Int):zfx a b=some (joinV a b):=by
 rw [← spec_join]
 unfold zfx zfc
 rw [zqi]
def rowG (s:TStructure) (i:Int) (b:List Int) (acc:Int):Int:=b.foldl (fun acc j=>joinV acc (nextV s i j)) acc
def nextG (s:TStructure) (a b:List Int):Int:=a.foldl (fun acc i=>rowG s i b acc) (nextV s (a.getD 0 0) (b.getD 0 0))
theorem zkk {α:Type} {xs:List α} (h:xs≠[]) (d:α):at? xs 0=some (xs.getD 0 d):=by
 have:=List.length_pos_iff.2 h
 exact at_in' (by omega) d
theorem spec_next (s:TStructure) {a b:List Int} (hs:small s.nodes.length) (ha:small a.length) (hb:small b.length) (a0:a≠[]) (b0:b≠[]):zek s a b=some (nextG s a b):=by
 unfold small at ha hb
 unfold zek
 rw [zkk a0 0,zkk b0 0]
 simp only [Option.bind_some,zim s _ _ hs]
 refine Tot.eq (Tot.bind (P:=(· = nextG s a b)) (Tot.loop (fun i q=>q=((a.take i).foldl (fun acc i=>rowG s i b acc) (nextV s (a.getD 0 0) (b.getD 0 0)),(i:Int))) a.length rfl fun i q hI hi=>?_) fun r hr=>by subst hr;exact Tot.ret rfl)
 subst hI
 by_cases hlt:i < a.length
 ·simp only [ltI,zai]
  rw [if_pos (by omega)]
  generalize hq:(a.take i).foldl (fun acc i=>rowG s i b acc) (nextV s (a.getD 0 0) (b.getD 0 0))=acc
  refine Tot.bind (P:=(· = rowG s a[i] b acc)) (Tot.loop (fun j q=>q=(rowG s a[i] (b.take j) acc,(j:Int))) b.length rfl fun j q hJ hj=>?_) fun r hr=>?_
  ·subst hJ
   by_cases hjl:j < b.length
   ·simp only [zcn,List.getElem?_eq_getElem hlt,List.getElem?_eq_getElem hjl,Option.bind_some,spec_join]
    rw [if_pos (by omega),zam (by omega) (by omega)]
    exact Tot.ret ⟨hjl,by rw [zda hjl];unfold rowG;rw [List.foldl_append];rfl⟩
   ·simp only
    rw [if_neg (by omega)]
    have:j=b.length:=by omega
    subst this
    exact Tot.ret (by show _=_;rw [List.take_length])
  ·subst hr
   rw [zam (by omega) (by omega)]
   exact Tot.ret ⟨hlt,by rw [zda hlt,List.foldl_append,hq];rfl⟩
 ·simp only [ltI,zai]
  rw [if_neg (by omega)]
  have:i=a.length:=by omega
  subst this
  exact Tot.ret (by show _=_;rw [List.take_length];rfl)
theorem impl_next (s:TStructure) {a b:List Int} (hs:small s.nodes.length) (ha:small a.length) (hb:small b.length) (a0:a≠[]) (b0:b≠[]):zdz s a b=some (nextG s a b):=by
 unfold small at ha hb
 unfold zdz
 rw [zkk a0 0,zkk b0 0]
 simp only [Option.bind_some,zpd s _ _ hs]
 refine Tot.eq (Tot.bind (P:=(· = nextG s a b)) (Tot.loop (fun i q=>q=((a.take i).foldl (fun acc i=>rowG s i b acc) (nextV s (a.getD 0 0) (b.getD 0 0)),(i:Int))) a.length rfl fun i q hI hi=>?_) fun r hr=>by subst hr;exact Tot.ret rfl)
 subst hI
 by_cases hlt:i < a.length
 ·simp only [ltI,zai,zcn,List.getElem?_eq_getElem hlt,Option.bind_some]
  rw [if_pos (by omega)]
  generalize hq:(a.take i).foldl (fun acc i=>rowG s i b acc) (nextV s (a.getD 0 0) (b.getD 0 0))=acc
  refine Tot.bind (P:=(· = rowG s a[i] b acc)) (Tot.loop (fun j q=>q=(rowG s a[i] (b.take j) acc,(j:Int))) b.length rfl fun j q hJ hj=>?_) fun r hr=>?_
  ·subst hJ
   by_cases hjl:j < b.length
   ·simp only [zcn,List.getElem?_eq_getElem hjl,Option.bind_some,impl_join]
    rw [if_pos (by omega),zam (by omega) (by omega)]
    exact Tot.ret ⟨hjl,by rw [zda hjl];unfold rowG;rw [List.foldl_append];rfl⟩
   ·simp only
    rw [if_neg (by omega)]
    have:j=b.length:=by omega
    subst this
    exact Tot.ret (by show _=_;rw [List.take_length])
  ·subst hr
   rw [zam (by omega) (by omega)]
   exact Tot.ret ⟨hlt,by rw [zda hlt,List.foldl_append,hq];rfl⟩
 ·simp only [ltI,zai]
  rw [if_neg (by omega)]
  have:i=a.length:=by omega
  subst this
  exact Tot.ret (by show _=_;rw [List.take_length];rfl)

def manyG (s:TStructure) (g:List Int):Int:=if 1 < g.length then 1 else if (s.nodes.getD (g.getD 0 0).toNat zN).many≠0 then 1 else (s.nodes.getD (g.getD 0 0).toNat zN).many
def nodeG (s:TStructure) (g:List Int):TNode:={ s.nodes.getD (g.getD 0 0).toNat zN with many:=manyG s g }
def inG (s:TStructure) (g:List Int):Prop:=∀ z∈g,0≤z∧z < (s.nodes.length:Int)
theorem zly {α:Type} {xs:List α} {i:Nat} (h:i < xs.length) (d:α):xs.getD i d∈xs:=by simp [List.getD,h]
theorem spec_node {s:TStructure} (hs:shortS s) {g:List Int} (hg:small g.length) (g0:g≠[]) (hin:inG s g):zej s g=some (nodeG s g):=by
 unfold small at hg
 have hp:=List.length_pos_iff.2 g0
 have h0:=hin _ (zly hp 0)
 unfold zej
 rw [zkk g0 0,Option.bind_some,at_in' h0 zN,Option.bind_some,copyNode _ (hs.e _ (zhc h0)),Option.bind_some]
 refine Tot.eq (Tot.bind (P:=(· = manyG s g)) (Tot.loop (fun i q=>q=((i:Int),if i=0 then (s.nodes.getD (g.getD 0 0).toNat zN).many else manyG s g)) g.length rfl fun i q hI hi=>?_) fun r hr=>by subst hr;exact Tot.ret rfl)
 subst hI
 by_cases hlt:i < g.length
 ·have hz:=hin _ (zly hlt 0)
  simp only [ltI,zai,zsb hlt 0,Option.bind_some,at_in' hz zN,neI,zet]
  rw [if_pos (by omega),zam (by omega) (by omega)]
  by_cases h1:1 < g.length
  ·rw [if_pos (by omega)]
   exact Tot.ret ⟨hlt,by rw [if_neg (by omega)];unfold manyG;rw [if_pos h1];rfl⟩
  ·rw [if_neg (by omega)]
   have:i=0:=by omega
   subst this
   by_cases h2:(s.nodes.getD (g.getD 0 0).toNat zN).many=0
   ·rw [if_pos h2]
    exact Tot.ret ⟨hlt,by rw [if_pos rfl,if_neg (by omega)];unfold manyG;rw [if_neg h1,if_neg (fun h=>h h2)];rfl⟩
   ·rw [if_neg h2]
    exact Tot.ret ⟨hlt,by rw [if_neg (by omega)];unfold manyG;rw [if_neg h1,if_pos h2];rfl⟩
 ·simp only [ltI,zai]
  rw [if_neg (by omega)]
  exact Tot.ret (by show _=_;rw [if_neg (by omega)])
theorem impl_many {s:TStructure} {g:List Int} (hg:small g.length) (g0:g≠[]) (hin:inG s g):Tot (iter (ρ:=Int) (fun s_42:Int × Int =>
                 cond (ltI s_42.1 (g.length:Int))
                  ((at? g s_42.1).bind fun e_50 =>
                   cond (ltI 0 s_42.1)
                    (some (.inl (addI s_42.1 1,1)))
                    ((at? s.nodes e_50).bind fun e_56 =>
                     cond (neI e_56.many 0)
                      (some (.inl (addI s_42.1 1,1)))
                      (some (.inl (addI s_42.1 1,s_42.2)))))
                  (some (.inr s_42.2))) (0,(s.nodes.getD (g.getD 0 0).toNat zN).many)) (· = manyG s g):=by
 unfold small at hg
 have hp:=List.length_pos_iff.2 g0
 refine Tot.loop (fun i q=>q=((i:Int),if i=0 then (s.nodes.getD (g.getD 0 0).toNat zN).many else if i=1 then (if (s.nodes.getD (g.getD 0 0).toNat zN).many≠0 then 1 else (s.nodes.getD (g.getD 0 0).toNat zN).many) else 1)) g.length rfl fun i q hI hi=>?_
 subst hI
 by_cases hlt:i < g.length
 ·have hz:=hin _ (zly hlt 0)
  simp only [ltI,zai,zsb hlt 0,Option.bind_some,at_in' hz zN,neI,zet]
  rw [if_pos (by omega),zam (by omega) (by omega)]
  by_cases h1:0 < i
  ·rw [if_pos (by omega)]
   exact Tot.ret ⟨hlt,by rw [if_neg (by omega),if_neg (by omega)];rfl⟩
  ·rw [if_neg (by omega)]
   have:i=0:=by omega
   subst this
   by_cases h2:(s.nodes.getD (g.getD 0 0).toNat zN).many=0
   ·rw [if_pos h2]
    exact Tot.ret ⟨hlt,by rw [if_pos rfl,if_neg (by omega),if_pos rfl,if_neg (fun h=>h h2)];rfl⟩
   ·rw [if_neg h2]
    exact Tot.ret ⟨hlt,by rw [if_neg (by omega),if_pos rfl,if_pos h2];rfl⟩
 ·simp only [ltI,zai]
  rw [if_neg (by omega)]
  have:i=g.length:=by omega
  subst this
  refine Tot.ret ?_
  unfold manyG
  by_cases h1:1 < g.length
  ·show _=_
   rw [if_neg (by omega),if_neg (by omega),if_pos h1]
  ·show _=_
   rw [if_neg (by omega),if_pos (by omega),if_neg h1]
end Go.Ev


namespace Go.Ev
open Wf (wf)
open Sm (sm lg)

def gsF (s:TStructure):List (List Int):=grpO (namesL s s.nodes.length)
def blurG (s:TStructure) (gs:List (List Int)):TStructure:=⟨gs.map (nodeG s),gs.flatMap fun a=>gs.map (nextG s a)⟩
def blurF (s:TStructure):TStructure:=if s.nodes.length=0 then ⟨[],[]⟩ else if isStrB (varsF s) s=true then blurG s (gsF s) else s
structure Grp (s:TStructure) (gs:List (List Int)):Prop where
 l:gs.length≤10
 e:∀ g∈gs,g≠[]∧g.length≤10∧inG s g
theorem zqd (s:TStructure) (k:Nat):(namesL s k).length=k:=by simp [namesL]
theorem grp_ok {s:TStructure} (h:okB s):Grp s (gsF s):=by
 have hn:=h.n
 have hl:=zqd s s.nodes.length
 refine ⟨?_,fun g hg=>?_⟩
 ·unfold gsF grpO
  rw [List.length_map,(zgl _).length_eq]
  have:=ziv (namesL s s.nodes.length)
  omega
 ·unfold gsF grpO at hg
  obtain ⟨k,hk,rfl⟩:=List.mem_map.1 hg
  have hm:=(zjf _ _).1 hk
  refine ⟨fun h0=>posN_nil.1 h0 hm,?_,fun z hz=>?_⟩
  ·have:=zku k (namesL s s.nodes.length) 0
   omega
  ·have:=zqa hz
   omega
theorem zrc {s:TStructure} (hs:shortS s) {gs:List (List Int)} (hG:Grp s gs):Tot ((iter (ρ:=(List TNode) × (List Int)) (fun s_12:Int × (List TNode) × (List Int) =>
        cond (ltI s_12.1 (gs.length:Int))
         ((at? gs s_12.1).bind fun e_20 =>
          (zej s e_20).bind fun y_25 =>
           (room (s_12.2.1.length + [y_25].length) 64).bind fun _ =>
            (iter (ρ:=(List Int)) (fun s_30:Int × (List Int) =>
             cond (ltI s_30.1 (gs.length:Int))
              ((at? gs s_12.1).bind fun _ =>
               (at? gs s_30.1).bind fun e_43 =>
                (zek s e_20 e_43).bind fun y_48 =>
                 (room (s_30.2.length + [y_48].length) 8).bind fun _ =>
                  some (.inl (addI s_30.1 1,s_30.2 ++ [y_48])))
              (some (.inr s_30.2))) (0,s_12.2.2)).bind fun r_53 =>
             some (.inl (addI s_12.1 1,s_12.2.1 ++ [y_25],r_53)))
         (some (.inr (s_12.2.1,s_12.2.2)))) (0,[],[])).bind fun r_58 =>
       some (⟨r_58.1,r_58.2⟩:TStructure)) (· = blurG s gs):=by
 have hl:=hG.l
 have hrow:∀ m,((gs.take m).flatMap fun a=>gs.map (nextG s a)).length=(gs.take m).length * gs.length:=fun m=>zit _ _ _ (fun x _=>by simp)
 refine Tot.bind (P:=(· = (gs.map (nodeG s),gs.flatMap fun a=>gs.map (nextG s a)))) (Tot.loop (fun i q=>q=((i:Int),(gs.take i).map (nodeG s),(gs.take i).flatMap fun a=>gs.map (nextG s a))) gs.length rfl fun i q hI hi=>?_) fun r hr=>by subst hr;exact Tot.ret rfl
 subst hI
 by_cases hlt:i < gs.length
 ·obtain ⟨g0,g1,g2⟩:=hG.e _ (List.getElem_mem hlt)
  have hi10:i * gs.length≤10 * 10:=Nat.mul_le_mul (by omega) (by omega)
  have hrl:((gs.take i).flatMap fun a=>gs.map (nextG s a)).length=i * gs.length:=by rw [hrow,List.length_take,Nat.min_eq_left (by omega)]
  simp only [ltI,zai,zcn,List.getElem?_eq_getElem hlt,Option.bind_some,spec_node hs (show small gs[i].length by unfold small;omega) g0 g2,List.length_map,List.length_take,List.length_singleton]
  rw [if_pos (by omega),zau (by omega) (by omega),Option.bind_some]
  refine Tot.bind (P:=(· = (gs.take (i+1)).flatMap fun a=>gs.map (nextG s a))) (Tot.loop (fun j q=>q=((j:Int),((gs.take i).flatMap fun a=>gs.map (nextG s a)) ++ (gs.take j).map (nextG s gs[i]))) gs.length (by simp) fun j q hJ hj=>?_) fun r hr=>?_
  ·subst hJ
   by_cases hjl:j < gs.length
   ·obtain ⟨b0,b1,b2⟩:=hG.e _ (List.getElem_mem hjl)
    simp only [zcn,List.getElem?_eq_getElem hjl,Option.bind_some,spec_next s hs.n (show small gs[i].length by unfold small;omega) (show small gs[j].length by unfold small;omega) g0 b0,List.length_append,hrl,List.length_map,List.length_take,List.length_singleton]
    rw [if_pos (by omega),zau (by omega) (by omega),Option.bind_some,zam (by omega) (by omega)]
    exact Tot.ret ⟨hjl,by rw [zda hjl,List.map_append,List.append_assoc];rfl⟩
   ·simp only
    rw [if_neg (by omega)]
    have:j=gs.length:=by omega
    subst this
    exact Tot.ret (by show _=_;rw [List.take_length,zda hlt,List.flatMap_append];simp)
  ·subst hr
   rw [zam (by omega) (by omega)]
   exact Tot.ret ⟨hlt,by rw [zda hlt,List.map_append];rfl⟩
 ·simp only [ltI,zai]
  rw [if_neg (by omega)]
  have:i=gs.length:=by omega
  subst this
  exact Tot.ret (by show _=_;rw [List.take_length])
theorem spec_blur {s:TStructure} (hs:shortS s):zgv s=some (blurF s):=by
 have hn:=hs.n
 unfold small at hn
 unfold zgv blurF
 simp only [eqI,zai,zjc,Option.bind_some,zha _ s hs]
 by_cases h0:s.nodes.length=0
 ·rw [if_pos (by omega),if_pos h0]
 ·rw [if_neg (by omega),if_neg h0]
  cases hc:isStrB (varsF s) s with
  | false =>
   rw [cond_false,zof s hs,if_neg (by simp)]
   rfl
  | true =>
   have hb:=okB_of hs hc h0
   have hg:zfs s=some (gsF s):=by
    unfold zfs groupsT
    rw [zrp (fun i hi=>spec_name hb (by omega)) _ (Nat.le_refl _),Option.bind_some,if_pos (names_few hb)]
    rfl
   rw [cond_true,if_pos rfl,hg,Option.bind_some]
   exact (zrc hs (grp_ok hb)).eq
theorem zrx {s:TStructure} (hs:shortS s) {ls:List ByteArray} {es:List (ByteArray × List Int)} {F:ByteArray→List Int} (hE:∀ k∈ls,lookT k es=some (F k)) (hG:Grp s (ls.map F)):Tot ((iter (ρ:=(List TNode) × (List Int)) (fun s_11:Int × (List TNode) × (List Int) =>
        cond (ltI s_11.1 (ls.length:Int))
         ((at? ls s_11.1).bind fun e_19 =>
          (lookT e_19 es).bind fun y_24 =>
           (at? y_24 0).bind fun e_27 =>
            (at? s.nodes e_27).bind fun e_32 =>
             (zdl e_32).bind fun y_37 =>
              (lookT e_19 es).bind fun _ =>
               (iter (ρ:=Int) (fun s_42:Int × Int =>
                cond (ltI s_42.1 (y_24.length:Int))
                 ((at? y_24 s_42.1).bind fun e_50 =>
                  cond (ltI 0 s_42.1)
                   (some (.inl (addI s_42.1 1,1)))
                   ((at? s.nodes e_50).bind fun e_56 =>
                    cond (neI e_56.many 0)
                     (some (.inl (addI s_42.1 1,1)))
                     (some (.inl (addI s_42.1 1,s_42.2)))))
                 (some (.inr s_42.2))) (0,y_37.many)).bind fun r_62 =>
                (room (s_11.2.1.length + [(⟨y_37.vars,y_37.reach,y_37.shared,r_62⟩:TNode)].length) 64).bind fun _ =>
                 (iter (ρ:=(List Int)) (fun s_69:Int × (List Int) =>
                  cond (ltI s_69.1 (ls.length:Int))
                   ((at? ls s_69.1).bind fun e_77 =>
                    (lookT e_19 es).bind fun _ =>
                     (lookT e_77 es).bind fun y_83 =>
                      (zdz s y_24 y_83).bind fun y_86 =>
                       (room (s_69.2.length + [y_86].length) 8).bind fun _ =>
                        some (.inl (addI s_69.1 1,s_69.2 ++ [y_86])))
                   (some (.inr s_69.2))) (0,s_11.2.2)).bind fun r_91 =>
                  some (.inl (addI s_11.1 1,s_11.2.1 ++ [(⟨y_37.vars,y_37.reach,y_37.shared,r_62⟩:TNode)],r_91)))
         (some (.inr (s_11.2.1,s_11.2.2)))) (0,[],[])).bind fun r_96 =>
       some (⟨r_96.1,r_96.2⟩:TStructure)) (· = blurG s (ls.map F)):=by
 have hl:=hG.l
 rw [List.length_map] at hl
 have hgs:∀ {i:Nat} (h:i < ls.length),F ls[i]≠[]∧(F ls[i]).length≤10∧inG s (F ls[i]):=fun h=>hG.e _ (List.mem_map.2 ⟨_,List.getElem_mem h,rfl⟩)
 have hrow:∀ m,((ls.take m).flatMap fun a=>ls.map fun b=>nextG s (F a) (F b)).length=(ls.take m).length * ls.length:=fun m=>zit _ _ _ (fun x _=>by simp)
 have hres:blurG s (ls.map F)=⟨ls.map fun a=>nodeG s (F a),ls.flatMap fun a=>ls.map fun b=>nextG s (F a) (F b)⟩:=by
  unfold blurG
  rw [List.map_map,List.flatMap_map]
  simp only [List.map_map]
  rfl
 rw [hres]
 refine Tot.bind (P:=(· = (ls.map (fun a=>nodeG s (F a)),ls.flatMap fun a=>ls.map fun b=>nextG s (F a) (F b)))) (Tot.loop (fun i q=>q=((i:Int),(ls.take i).map (fun a=>nodeG s (F a)),(ls.take i).flatMap fun a=>ls.map fun b=>nextG s (F a) (F b))) ls.length rfl fun i q hI hi=>?_) fun r hr=>by subst hr;exact Tot.ret rfl
 subst hI
 by_cases hlt:i < ls.length
 ·obtain ⟨g0,g1,g2⟩:=hgs hlt
  have hp:=List.length_pos_iff.2 g0
  have h0:=g2 _ (zly hp 0)
  have hi10:i * ls.length≤10 * 10:=Nat.mul_le_mul (by omega) (by omega)
  have hrl:((ls.take i).flatMap fun a=>ls.map fun b=>nextG s (F a) (F b)).length=i * ls.length:=by rw [hrow,List.length_take,Nat.min_eq_left (by omega)]
  simp only [ltI,zai,zcn,List.getElem?_eq_getElem hlt,Option.bind_some,hE _ (List.getElem_mem hlt)]
  rw [if_pos (by omega),zkk g0 0,Option.bind_some,at_in' h0 zN,Option.bind_some,ownNode _ (hs.e _ (zhc h0)),Option.bind_some]
  have hm:=impl_many (s:=s) (show small (F ls[i]).length by unfold small;omega) g0 g2
  simp only [ltI,zai] at hm
  refine Tot.bind hm fun r hr=>?_
  subst hr
  simp only [List.length_map,List.length_take,List.length_singleton]
  rw [zau (by omega) (by omega),Option.bind_some]
  refine Tot.bind (P:=(· = (ls.take (i+1)).flatMap fun a=>ls.map fun b=>nextG s (F a) (F b))) (Tot.loop (fun j q=>q=((j:Int),((ls.take i).flatMap fun a=>ls.map fun b=>nextG s (F a) (F b)) ++ (ls.take j).map fun b=>nextG s (F ls[i]) (F b))) ls.length (by simp) fun j q hJ hj=>?_) fun r hr=>?_
  ·subst hJ
   by_cases hjl:j < ls.length
   ·obtain ⟨b0,b1,b2⟩:=hgs hjl
    simp only [zcn,List.getElem?_eq_getElem hjl,Option.bind_some,hE _ (List.getElem_mem hjl),impl_next s hs.n (show small (F ls[i]).length by unfold small;omega) (show small (F ls[j]).length by unfold small;omega) g0 b0,List.length_append,hrl,List.length_map,List.length_take,List.length_singleton]
    rw [if_pos (by omega),zau (by omega) (by omega),Option.bind_some,zam (by omega) (by omega)]
    exact Tot.ret ⟨hjl,by rw [zda hjl,List.map_append,List.append_assoc];rfl⟩
   ·simp only
    rw [if_neg (by omega)]
    have:j=ls.length:=by omega
    subst this
    exact Tot.ret (by show _=_;rw [List.take_length,zda hlt,List.flatMap_append];simp)
  ·subst hr
   rw [zam (by omega) (by omega)]
   exact Tot.ret ⟨hlt,by rw [zda hlt,List.map_append];rfl⟩
 ·simp only [ltI,zai]
  rw [if_neg (by omega)]
  have:i=ls.length:=by omega
  subst this
  exact Tot.ret (by show _=_;rw [List.take_length])
theorem impl_blur {s:TStructure} (hs:shortS s):zgy s=some (blurF s):=by
 have hn:=hs.n
 unfold small at hn
 unfold zgy blurF
 simp only [eqI,zai,zhl,zjc,Option.bind_some,zhb _ s hs]
 by_cases h0:s.nodes.length=0
 ·rw [if_pos (by omega),if_pos h0]
 ·rw [if_neg (by omega),if_neg h0]
  cases hc:isStrB (varsF s) s with
  | false =>
   rw [cond_false,impl_owns s hs,if_neg (by simp)]
   rfl
  | true =>
   have hb:=okB_of hs hc h0
   have hg:preT zea s=some (grpN (namesL s s.nodes.length),sortN (dstN (namesL s s.nodes.length))):=by
    unfold preT
    rw [zrp (fun i hi=>impl_name hb (by omega)) _ (Nat.le_refl _),Option.bind_some,if_pos]
    rw [Bool.and_eq_true]
    exact ⟨names_few hb,by rw [zqd];simpa using hb.z⟩
   rw [cond_true,if_pos rfl,hg,Option.bind_some]
   refine (zrx hs (F:=fun k=>posN k (namesL s s.nodes.length) 0) (fun k hk=>?_) (grp_ok hb)).eq
   show lookT k (grpN _)=_
   unfold grpN
   rw [zoy,if_pos ((zgl _).mem_iff.1 hk)]
end Go.Ev


namespace Go.Ev
open Wf (wf)
open Sm (sm lg)

theorem nil_app (a:ByteArray):(⟨#[]⟩:ByteArray) ++ a=a:=by
 apply ByteArray.ext
 rw [ByteArray.data_append]
 exact Array.empty_append
def valsK (l:List Int):Nat→ByteArray
 | 0=>⟨#[]⟩
 | k+1=>valsK l k ++ txtF (l.getD k 0)
theorem zfz (l:List Int):∀ k,(valsK l k).size≤k
 | 0=>Nat.le_refl _
 | k+1=>by
  rw [valsK,ByteArray.size_append]
  have:=zfz l k
  have:=zhm (l.getD k 0)
  omega
def valsF (l:List Int):ByteArray:=valsK l l.length
theorem zje (l:List Int) (h:l.length≤1000):zby l=some (valsF l):=by
 unfold zby
 refine Tot.eq (Tot.bind (P:=(· = valsF l)) (Tot.loop (fun k q=>q=(valsK l k,(k:Int))) l.length rfl fun k q hI hk=>?_) fun r hr=>by subst hr;exact Tot.ret rfl)
 subst hI
 by_cases hlt:k < l.length
 ·simp only [ltI,zai,Int.ofNat_lt,hlt,if_true,zcn,List.getElem?_eq_getElem hlt,Option.bind_some,zlk]
  have h1:=zfz l k
  have h2:=zhm l[k]
  unfold catS
  rw [if_pos (by omega),Option.bind_some,zam (by omega) (by omega)]
  exact Tot.ret ⟨trivial,by rw [valsK];simp [List.getD,hlt]⟩
 ·simp only [ltI,zai,Int.ofNat_lt,hlt,if_false]
  have:k=l.length:=by omega
  subst this
  exact Tot.ret rfl
theorem vals_eq (l:List Int):zcc l=zby l:=by
 unfold zcc zby
 simp only [impl_txt,zlk]
theorem vals_one (a:Int):valsF [a]=txtF a:=by
 show ⟨#[]⟩ ++ txtF a=_
 exact nil_app _
theorem fmt_eq (n:Int):zca n=zbp n:=by
 unfold zca
 show ((digF n).bind fun y=>some y)=digF n
 cases digF n <;> rfl
theorem join_eq (l:List ByteArray) (s:ByteArray):zgf l s=zft l s:=by
 unfold zgf
 show ((joinF l s).bind fun y=>some y)=joinF l s
 cases joinF l s <;> rfl
theorem next_eq (s:TStructure) (h:small s.nodes.length) (i j:Int):zdp s i j=zco s i j:=by
 rw [zpd s i j h,zim s i j h]

def dgB (j:Nat):ByteArray:=⟨#[UInt8.ofNat (48+j)]⟩
def arK (s:TStructure) (i:Int):Nat→List ByteArray
 | 0=>[]
 | j+1=>arK s i j ++ (if nextV s i j=2 then [dgB j] else if nextV s i j=1 then [dgB j ++ ⟨#[63]⟩] else [])
theorem arK_ok (s:TStructure) (i:Int):∀ j,(arK s i j).length≤j∧∀ x∈arK s i j,x.size≤2
 | 0=>⟨Nat.le_refl _,fun x hx=>by cases hx⟩
 | j+1=>by
  obtain ⟨h1,h2⟩:=arK_ok s i j
  have hd:(dgB j).size=1:=rfl
  have hq:(dgB j ++ ⟨#[63]⟩:ByteArray).size=2:=by rw [ByteArray.size_append];rfl
  rw [arK]
  refine ⟨?_,fun x hx=>?_⟩
  ·rw [List.length_append]
   split
   ·simp;omega
   ·split
    ·simp;omega
    ·simp;omega
  ·rcases List.mem_append.1 hx with hx | hx
   ·exact h2 x hx
   ·split at hx
    ·rw [List.mem_singleton] at hx;subst hx;omega
    ·split at hx
     ·rw [List.mem_singleton] at hx;subst hx;omega
     ·cases hx
def arF (s:TStructure) (i:Int):List ByteArray:=arK s i s.nodes.length
theorem spec_dig (j:Nat) (h:j < 10):zbp (j:Int)=some (dgB j):=by
 show digF _=_
 unfold digF
 rw [if_pos (by omega)]
 rfl
theorem zog (s:TStructure) (i:Int) (hn:s.nodes.length≤10):iter (ρ:=List ByteArray) (fun s_25:(List ByteArray) × Int =>
           cond (ltI s_25.2 (s.nodes.length:Int))
            ((zco s i s_25.2).bind fun y_33 =>
             cond (eqI y_33 2)
              ((zbp s_25.2).bind fun y_37 =>
               (room (s_25.1.length + [y_37].length) 16).bind fun _ =>
                some (.inl (s_25.1 ++ [y_37],addI s_25.2 1)))
              (cond (eqI y_33 1)
               ((zbp s_25.2).bind fun y_43 =>
                (catS y_43 (⟨#[63]⟩:ByteArray)).bind fun z_46 =>
                 (room (s_25.1.length + [z_46].length) 16).bind fun _ =>
                  some (.inl (s_25.1 ++ [z_46],addI s_25.2 1)))
               (some (.inl (s_25.1,addI s_25.2 1)))))
            (some (.inr s_25.1))) ([],0)=some (arF s i):=by
 refine Tot.eq (Tot.loop (fun k q=>q=(arK s i k,(k:Int))) s.nodes.length rfl fun k q hI hk=>?_)
 subst hI
 obtain ⟨h1,h2⟩:=arK_ok s i k
 by_cases hlt:k < s.nodes.length
 ·simp only [ltI,zai,Int.ofNat_lt,hlt,if_true,zim s i _ (show small s.nodes.length by unfold small;omega),Option.bind_some,eqI,spec_dig k (by omega),List.length_singleton]
  have hcat:catS (dgB k) ⟨#[63]⟩=some (dgB k ++ ⟨#[63]⟩):=by
   unfold catS
   rw [if_pos (by show 1+1≤_;omega)]
  rw [hcat,Option.bind_some,zau (by omega) (by omega),Option.bind_some,Option.bind_some,zam (by omega) (by omega)]
  by_cases e2:nextV s i k=2
  ·rw [if_pos e2]
   exact Tot.ret ⟨trivial,by rw [arK,if_pos e2];rfl⟩
  ·rw [if_neg e2]
   by_cases e1:nextV s i k=1
   ·rw [if_pos e1]
    exact Tot.ret ⟨trivial,by rw [arK,if_neg e2,if_pos e1];rfl⟩
   ·rw [if_neg e1]
    exact Tot.ret ⟨trivial,by rw [arK,if_neg e2,if_neg e1,List.append_nil];rfl⟩
 ·simp only [ltI,zai,Int.ofNat_lt,hlt,if_false]
  have:k=s.nodes.length:=by omega
  subst this
  exact Tot.ret rfl

def joinB (l:List ByteArray) (sep:ByteArray):ByteArray:=⟨(joinL l sep).toArray⟩
theorem joinL_len (m:Nat) (sep:ByteArray):∀ l:List ByteArray,(∀ x∈l,x.size≤m)→(joinL l sep).length≤l.length * (m+sep.size)
 | [],_=>by simp [joinL,Lib.join_nil]
 | x :: r,h=>by
  have hx:x.data.toList.length≤m:=by rw [Array.length_toList];exact h x (by simp)
  have hs:sep.data.toList.length=sep.size:=Array.length_toList
  have ht:(Lib.joinTail sep.data.toList (r.map (·.data.toList))).length≤r.length * (m+sep.size):=by
   have hr:∀ x∈r,x.size≤m:=fun y hy=>h y (by simp [hy])
   clear h hx
   induction r with
   | nil=>simp [Lib.joinTail]
   | cons y r ih =>
    have hy:y.data.toList.length≤m:=by rw [Array.length_toList];exact hr y (by simp)
    have:=ih fun z hz=>hr z (by simp [hz])
    have e:Lib.joinTail sep.data.toList ((y :: r).map (·.data.toList))=sep.data.toList ++ y.data.toList ++ Lib.joinTail sep.data.toList (r.map (·.data.toList)):=by simp [Lib.joinTail]
    rw [e,List.length_append,List.length_append,List.length_cons,Nat.succ_mul]
    omega
  unfold joinL
  rw [List.map_cons,Lib.join_cons,List.length_append,List.length_cons,Nat.succ_mul]
  omega
theorem joinB_ok {l:List ByteArray} {sep:ByteArray} {m:Nat} (h:∀ x∈l,x.size≤m) (hl:l.length≤10) (hm:m≤1000) (hs:sep.size≤1):zft l sep=some (joinB l sep)∧(joinB l sep).size≤10 * (m+1):=by
 have h1:=joinL_len m sep l h
 have h2:l.length * (m+sep.size)≤10 * (m+1):=Nat.mul_le_mul hl (by omega)
 have h3:(joinB l sep).size=(joinL l sep).length:=by
  show (joinL l sep).toArray.size=_
  simp
 refine ⟨?_,by omega⟩
 show joinF l sep=_
 unfold joinF
 rw [if_pos ⟨by omega,by omega⟩]
 rfl

def headF (x:TNode):ByteArray:=valsF x.vars ++ valsF x.reach ++ txtF x.shared
def starF (x:TNode):ByteArray:=if x.many=1 then headF x ++ ⟨#[42]⟩ else headF x
def wordF (s:TStructure) (i:Int):ByteArray :=
 if 0 < ((arF s i).length:Int) then starF (s.nodes.getD i.toNat zN) ++ (⟨#[62]⟩ ++ joinB (arF s i) ⟨#[44]⟩) else starF (s.nodes.getD i.toNat zN)
theorem zii {a b:ByteArray} (h:a.size+b.size≤1000000):catS a b=some (a ++ b):=by
 unfold catS
 rw [if_pos (by omega)]
theorem zep (b:UInt8):(⟨#[b]⟩:ByteArray).size=1:=rfl
theorem word_ok {s:TStructure} (hs:okB s) {i:Int} (hi:0≤i∧i < (s.nodes.length:Int)):(headF (s.nodes.getD i.toNat zN)).size≤9∧(starF (s.nodes.getD i.toNat zN)).size≤10∧zft (arF s i) ⟨#[44]⟩=some (joinB (arF s i) ⟨#[44]⟩)∧(joinB (arF s i) ⟨#[44]⟩).size≤30∧(wordF s i).size≤50:=by
 have hv:=hs.v
 obtain ⟨e1,e2⟩:=hs.e _ (zhc hi)
 obtain ⟨a1,a2⟩:=arK_ok s i s.nodes.length
 have hn:=hs.n
 obtain ⟨j1,j2⟩:=joinB_ok (sep:=⟨#[44]⟩) (m:=2) a2 (by omega) (by omega) (Nat.le_refl _)
 have h1:=zfz (s.nodes.getD i.toNat zN).vars (s.nodes.getD i.toNat zN).vars.length
 have h2:=zfz (s.nodes.getD i.toNat zN).reach (s.nodes.getD i.toNat zN).reach.length
 have h3:=zhm (s.nodes.getD i.toNat zN).shared
 have hh:(headF (s.nodes.getD i.toNat zN)).size≤9:=by
  unfold headF valsF
  rw [ByteArray.size_append,ByteArray.size_append]
  omega
 have hst:(starF (s.nodes.getD i.toNat zN)).size≤10:=by
  unfold starF
  split
  ·rw [ByteArray.size_append,zep];omega
  ·omega
 refine ⟨hh,hst,j1,j2,?_⟩
 unfold wordF
 split
 ·rw [ByteArray.size_append,ByteArray.size_append,zep]
  have:(joinB (arF s i) ⟨#[44]⟩).size≤30:=j2
  omega
 ·omega
theorem spec_word {s:TStructure} (hs:okB s) {i:Int} (hi:0≤i∧i < (s.nodes.length:Int)):zfb s i=some (wordF s i):=by
 have hn:=hs.n
 have hv:=hs.v
 obtain ⟨e1,e2⟩:=hs.e _ (zhc hi)
 obtain ⟨w1,w2,w3,w4,w5⟩:=word_ok hs hi
 unfold zfb
 rw [at_in' hi zN,Option.bind_some,zje _ (by omega),Option.bind_some,zje _ (by omega),Option.bind_some]
 have h1:(valsF (s.nodes.getD i.toNat zN).vars).size≤4:=Nat.le_trans (zfz _ _) (by omega)
 have h2:(valsF (s.nodes.getD i.toNat zN).reach).size≤4:=Nat.le_trans (zfz _ _) (by omega)
 have h3:=zhm (s.nodes.getD i.toNat zN).shared
 rw [zii (by omega),Option.bind_some,zlk,Option.bind_some,zii (by rw [ByteArray.size_append];omega),Option.bind_some,zog s i hn]
 rw [show valsF (s.nodes.getD i.toNat zN).vars ++ valsF (s.nodes.getD i.toNat zN).reach ++ txtF (s.nodes.getD i.toNat zN).shared=headF (s.nodes.getD i.toNat zN) from rfl]
 simp only [eqI,ltI,zai,Option.bind_some,w3]
 unfold wordF starF
 by_cases hm:(s.nodes.getD i.toNat zN).many=1
 ·rw [if_pos hm,zii (by rw [zep];omega),Option.bind_some,if_pos hm]
  by_cases ha:0 < ((arF s i).length:Int)
  ·rw [if_pos ha,if_pos ha,zii (by rw [ByteArray.size_append,zep,zep];omega),Option.bind_some,zii (by rw [ByteArray.size_append,ByteArray.size_append,zep,zep];omega),Option.bind_some,ByteArray.append_assoc (b:=⟨#[62]⟩)]
  ·rw [if_neg ha,if_neg ha]
 ·rw [if_neg hm,if_neg hm]
  by_cases ha:0 < ((arF s i).length:Int)
  ·rw [if_pos ha,if_pos ha,zii (by rw [zep];omega),Option.bind_some,zii (by rw [ByteArray.size_append,zep];omega),Option.bind_some,ByteArray.append_assoc (b:=⟨#[62]⟩)]
  ·rw [if_neg ha,if_neg ha]
end Go.Ev


namespace Go.Ev
open Wf (wf)
open Sm (sm lg)

def wdK (s:TStructure):Nat→List ByteArray
 | 0=>[]
 | k+1=>wdK s k ++ [wordF s k]
theorem znu (s:TStructure):∀ k,(wdK s k).length=k
 | 0=>rfl
 | k+1=>by rw [wdK,List.length_append,znu s k];rfl
theorem wdK_size {s:TStructure} (hs:okB s):∀ k,k≤s.nodes.length→∀ x∈wdK s k,x.size≤50
 | 0,_,x,hx=>by cases hx
 | k+1,hk,x,hx=>by
  rw [wdK] at hx
  rcases List.mem_append.1 hx with hx | hx
  ·exact wdK_size hs k (by omega) x hx
  ·rw [List.mem_singleton] at hx;subst hx
   exact (word_ok hs (i:=(k:Int)) (by omega)).2.2.2.2
def stF (s:TStructure):ByteArray:=joinB (wdK s s.nodes.length) ⟨#[32]⟩
theorem st_join {s:TStructure} (hs:okB s):zft (wdK s s.nodes.length) ⟨#[32]⟩=some (stF s) :=
 (joinB_ok (m:=50) (wdK_size hs _ (Nat.le_refl _)) (by rw [znu];exact hs.n) (by omega) (Nat.le_refl _)).1
theorem spec_text {s:TStructure} {z:List ByteArray} (hs:okB s) (hz:zbu z=some true) (hi:isStrB (z.length:Int) s=true):zay z s=some (stF s):=by
 have hn:=hs.n
 have h1:=hs.z
 unfold zay
 rw [hz,Option.bind_some,zha _ s hs.sh,hi]
 simp only [cond_true,Option.bind_some]
 refine Tot.eq (Tot.bind (P:=(· = wdK s s.nodes.length)) (Tot.loop (fun k q=>q=(wdK s k,(k:Int))) s.nodes.length rfl fun k q hI hk=>?_) fun r hr=>?_)
 ·subst hI
  by_cases hlt:k < s.nodes.length
  ·simp only [ltI,zai]
   rw [if_pos (by omega),spec_word hs (by omega),Option.bind_some,znu,List.length_singleton,zau (by omega) (by omega),Option.bind_some,zam (by omega) (by omega)]
   exact Tot.ret ⟨hlt,rfl⟩
  ·simp only [ltI,zai]
   rw [if_neg (by omega)]
   have:k=s.nodes.length:=by omega
   subst this
   exact Tot.ret rfl
 ·subst hr
  simp only [eqI,zai]
  rw [znu,if_neg (by omega),st_join hs]
  exact Tot.ret rfl
theorem impl_text {s:TStructure} {z:List ByteArray} (hs:okB s) (hz:zcl z=some true) (hi:isStrB (z.length:Int) s=true):zap z s=some (stF s):=by
 have hn:=hs.n
 have h1:=hs.z
 have hv:=hs.v
 have hsm:small s.nodes.length:=by unfold small;omega
 unfold zap
 rw [hz,Option.bind_some,zhb _ s hs.sh,hi]
 simp only [cond_true,Option.bind_some,vals_eq,fmt_eq,join_eq,next_eq s hsm,eqI,zai]
 rw [if_neg (by omega)]
 refine Tot.eq (Tot.bind (P:=(· = wdK s s.nodes.length)) (Tot.loop (fun k q=>q=(wdK s k,(k:Int))) s.nodes.length rfl fun k q hI hk=>?_) fun r hr=>?_)
 ·subst hI
  by_cases hlt:k < s.nodes.length
  ·have hik:0≤(k:Int)∧(k:Int) < (s.nodes.length:Int):=by omega
   obtain ⟨e1,e2⟩:=hs.e _ (zhc hik)
   obtain ⟨w1,w2,w3,w4,w5⟩:=word_ok hs hik
   have a1:(valsF (s.nodes.getD (k:Int).toNat zN).vars).size≤4:=Nat.le_trans (zfz _ _) (by omega)
   have a2:(valsF (s.nodes.getD (k:Int).toNat zN).reach).size≤4:=Nat.le_trans (zfz _ _) (by omega)
   have a3:=zhm (s.nodes.getD (k:Int).toNat zN).shared
   have har:=zog s (k:Int) hn
   simp only [eqI,zai] at har
   simp only [ltI,zai] at har ⊢
   rw [if_pos hik.2,at_in' hik zN,Option.bind_some,zje _ (by omega),Option.bind_some,zje _ (by omega),Option.bind_some,zii (by omega),Option.bind_some,zje _ (by simp),Option.bind_some,vals_one,zii (by rw [ByteArray.size_append];omega),Option.bind_some,
    show valsF (s.nodes.getD (k:Int).toNat zN).vars ++ valsF (s.nodes.getD (k:Int).toNat zN).reach ++ txtF (s.nodes.getD (k:Int).toNat zN).shared=headF (s.nodes.getD (k:Int).toNat zN) from rfl,har]
   simp only [Option.bind_some,w3,znu,List.length_singleton]
   rw [zii (b:=joinB (arF s k) ⟨#[44]⟩) (by rw [zep];omega),zau (by omega) (by omega),zam (by omega) (by omega)]
   simp only [Option.bind_some]
   have goal:∀ x,x=wordF s k→Tot (some (Sum.inl (wdK s k ++ [x],(k:Int)+1)):Option ((List ByteArray × Int) ⊕ List ByteArray)) (Sum.elim (fun s'=>k < s.nodes.length∧s'=(wdK s (k+1),((k+1:Nat):Int))) fun x=>x=wdK s s.nodes.length):=fun x hx=>by
    subst hx
    exact Tot.ret ⟨hlt,rfl⟩
   by_cases hm:(s.nodes.getD (k:Int).toNat zN).many=1
   ·rw [if_pos hm,zii (by rw [zep];omega),Option.bind_some]
    by_cases ha:0 < ((arF s k).length:Int)
    ·rw [if_pos ha,zii (by rw [ByteArray.size_append,ByteArray.size_append,zep,zep];omega),Option.bind_some]
     exact goal _ (by unfold wordF starF;rw [if_pos ha,if_pos hm])
    ·rw [if_neg ha]
     exact goal _ (by unfold wordF starF;rw [if_neg ha,if_pos hm])
   ·rw [if_neg hm]
    by_cases ha:0 < ((arF s k).length:Int)
    ·rw [if_pos ha,zii (by rw [ByteArray.size_append,zep];omega),Option.bind_some]
     exact goal _ (by unfold wordF starF;rw [if_pos ha,if_neg hm])
    ·rw [if_neg ha]
     exact goal _ (by unfold wordF starF;rw [if_neg ha,if_neg hm])
  ·simp only [ltI,zai]
   rw [if_neg (by omega)]
   have:k=s.nodes.length:=by omega
   subst this
   exact Tot.ret rfl
 ·subst hr
  rw [st_join hs]
  exact Tot.ret rfl

theorem spec_name1 (c:UInt8) (h:97≤c.toNat∧c.toNat≤122):zee ⟨#[c]⟩=some true:=by
 unfold zee
 refine Tot.eq (Tot.bind (P:=fun r=>r=.inr ()) (Tot.loop (fun k q=>q=(k:Int)) 1 rfl fun k q hI hk=>?_) fun r hr=>?_)
 ·subst hI
  simp only [ltI,zai,zep]
  rcases Nat.eq_zero_or_pos k with rfl | hp
  ·have:chr? (⟨#[c]⟩:ByteArray) ((0:Nat):Int)=some (c.toNat:Int):=rfl
   rw [if_pos (by omega),this,Option.bind_some,if_neg (by omega),Option.bind_some,if_neg (by omega)]
   exact Tot.ret ⟨by omega,rfl⟩
  ·rw [if_neg (by omega)]
   exact Tot.ret rfl
 ·subst hr
  exact Tot.ret rfl
theorem isName_eq (s:ByteArray):zfy s=zee s:=by
 unfold zfy zee
 simp only [zes,zdj]
theorem spec_index {l:List ByteArray} {s:ByteArray} {k:Nat} (hl:l.length≤100) (hk:k < l.length) (h1:eqS l[k] s=true) (h2:∀ j (h:j < k),eqS (l[j]'(by omega)) s=false):zch l s=some (k:Int):=by
 unfold zch
 refine Tot.eq (Tot.bind (P:=fun r=>r=.inl (k:Int)) (Tot.loop (fun j q=>q=(j:Int)∧j≤k) k ⟨rfl,Nat.zero_le _⟩ fun j q hI hj=>?_) fun r hr=>?_)
 ·obtain ⟨rfl,hjk⟩:=hI
  simp only [ltI,zai]
  rw [if_pos (by omega),zcn,List.getElem?_eq_getElem (by omega),Option.bind_some]
  rcases Nat.lt_or_ge j k with h | h
  ·rw [h2 j h,zam (by omega) (by omega)]
   exact Tot.ret ⟨h,rfl,by omega⟩
  ·obtain rfl:j=k:=by omega
   rw [h1]
   exact Tot.ret rfl
 ·subst hr
  exact Tot.ret rfl
theorem eqS_comm (a b:ByteArray):eqS a b=eqS b a:=by
 unfold eqS
 exact Bool.eq_iff_iff.2 ⟨fun h=>by rw [beq_iff_eq] at *; exact h.symm,fun h=>by rw [beq_iff_eq] at *; exact h.symm⟩
theorem index_eq (l:List ByteArray) (s:ByteArray):zfg l s=zch l s:=by
 have h:zbq l s=zch l s:=by
  unfold zbq zch
  simp only [eqS_comm s]
 unfold zfg
 rw [h]
 cases zch l s <;> rfl
def L4:List ByteArray:=[⟨#[97]⟩,⟨#[98]⟩,⟨#[99]⟩,⟨#[100]⟩]
theorem areVars_of {l:List ByteArray} (hl:1≤l.length∧l.length≤4) (h1:∀ k (h:k < l.length),zee l[k]=some true∧zch l l[k]=some (k:Int)):zbu l=some true:=by
 unfold zbu
 refine Tot.eq (Tot.bind (P:=fun r=>r=.inr ()) (Tot.loop (fun k q=>q=(k:Int)) l.length rfl fun k q hI hk=>?_) fun r hr=>?_)
 ·subst hI
  simp only [ltI,zai]
  by_cases hlt:k < l.length
  ·obtain ⟨a1,a2⟩:=h1 k hlt
   rw [if_pos (by omega),zcn,List.getElem?_eq_getElem hlt,Option.bind_some,a1,Option.bind_some,cond_true,Option.bind_some,a2,Option.bind_some]
   simp only [neI,zet]
   rw [if_pos trivial,zam (by omega) (by omega)]
   exact Tot.ret ⟨hlt,rfl⟩
  ·rw [if_neg (by omega)]
   exact Tot.ret rfl
 ·subst hr
  rw [zdj]
  exact Tot.ret (by simp;omega)
theorem zqn (l:List ByteArray):zcl l=zbu l:=by
 unfold zcl zbu
 simp only [isName_eq,index_eq,zes,zdj]
 congr 2
 funext q
 cases h:at? l q with
 | none=>rfl
 | some x=>rfl
theorem one_eq (a b:UInt8):eqS ⟨#[a]⟩ ⟨#[b]⟩=(a == b):=by
 have:∀ c:UInt8,(⟨#[c]⟩:ByteArray).toList=[c]:=fun c=>by rw [zpl]
 unfold eqS
 rw [this,this]
 simp
theorem spec_L4 (n:Nat) (hn:1≤n∧n≤4):zbu (L4.take n)=some true:=by
 have hlen:(L4.take n).length=n:=by rw [List.length_take];show min n 4=n;omega
 refine areVars_of (by omega) fun k hk=>?_
 rw [hlen] at hk
 have hg:∀ j (h:j < (L4.take n).length),(L4.take n)[j]=(⟨#[UInt8.ofNat (97+j)]⟩:ByteArray):=fun j h=>by
  have h4:j < 4:=by rw [hlen] at h;omega
  rw [List.getElem_take]
  match j,h4 with
  | 0,_=>rfl
  | 1,_=>rfl
  | 2,_=>rfl
  | 3,_=>rfl
 have hk4:k < 4:=by omega
 have hb:(UInt8.ofNat (97+k)).toNat=97+k:=by
  rw [UInt8.toNat_ofNat']
  omega
 refine ⟨by rw [hg];exact spec_name1 _ (by omega),spec_index (by omega) (by omega) ?_ fun j hj=>?_⟩
 ·unfold eqS;exact beq_self_eq_true _
 ·rw [hg,hg,one_eq,beq_eq_false_iff_ne]
  intro he
  have:=congrArg UInt8.toNat he
  rw [hb,UInt8.toNat_ofNat'] at this
  omega
theorem impl_L4 (n:Nat) (hn:1≤n∧n≤4):zcl (L4.take n)=some true:=by rw [zqn];exact spec_L4 n hn
def keyF (s:TStructure):ByteArray:=if s.nodes.length=0 then ⟨#[45]⟩ else if isStrB (varsF s) s=true then stF s else ⟨#[]⟩

theorem slc_L4 (n:Int) (h:0≤n∧n≤4):slc L4 0 n=some (L4.take n.toNat):=by
 unfold slc
 have:(L4.length:Int)=4:=rfl
 rw [if_pos (by omega)]
 simp
theorem vars_node {s:TStructure} (h:¬ s.nodes.length=0):∃ x∈s.nodes,varsF s=(x.vars.length:Int):=by
 unfold varsF
 cases hn:s.nodes with
 | nil=>rw [hn] at h;exact absurd rfl h
 | cons x r=>exact ⟨x,by simp,rfl⟩
theorem zkw {v:Int} {s:TStructure} (h:isStrB v s=true):1≤v∧v≤4:=by
 unfold isStrB at h
 simp only [Bool.and_eq_true,decide_eq_true_eq] at h
 exact h.1
theorem isStr_vars {v:Int} {s:TStructure} (h:isStrB v s=true) (h0:¬ s.nodes.length=0):varsF s=v:=by
 unfold isStrB at h
 simp only [Bool.and_eq_true,decide_eq_true_eq,List.all_eq_true] at h
 obtain ⟨x,hx,e⟩:=vars_node h0
 have:=h.2.2.2.2 x hx
 unfold nodeOkB at this
 simp only [Bool.and_eq_true,decide_eq_true_eq] at this
 omega
theorem zoe {s:TStructure} {z:List ByteArray} (hs:shortS s) (hz:zbu z=some true) (hi:isStrB (z.length:Int) s=false):zay z s=some ⟨#[]⟩:=by
 unfold zay
 rw [hz,Option.bind_some,zha _ s hs,hi]
 rfl
theorem zjn {s:TStructure} {z:List ByteArray} (hs:shortS s) (hz:zcl z=some true) (hi:isStrB (z.length:Int) s=false):zap z s=some ⟨#[]⟩:=by
 unfold zap
 rw [hz,Option.bind_some,zhb _ s hs,hi]
 rfl
theorem impl_noVars (s:TStructure):zap [] s=some ⟨#[]⟩:=by
 have:zcl []=some false:=by
  rw [zqn]
  unfold zbu
  refine Tot.eq (Tot.bind (P:=fun r=>r=.inr ()) (Tot.loop (fun k q=>q=(k:Int)) 0 rfl fun k q hI hk=>?_) fun r hr=>?_)
  ·subst hI
   simp only [ltI,zai]
   rw [if_neg (by simp)]
   exact Tot.ret rfl
  ·subst hr
   rw [zdj]
   exact Tot.ret rfl
 unfold zap
 rw [this]
 rfl
theorem znv (s:TStructure):0≤varsF s:=by
 unfold varsF
 split
 ·omega
 ·omega
theorem L4_len (n:Int) (h:0≤n∧n≤4):((L4.take n.toNat).length:Int)=n:=by
 rw [List.length_take]
 have:L4.length=4:=rfl
 omega
theorem zra {s:TStructure} (hs:shortS s):zed s=some (keyF s):=by
 have hv:=znv s
 unfold zed keyF
 simp only [eqI,zai]
 by_cases h0:s.nodes.length=0
 ·rw [if_pos (by omega),if_pos h0]
 ·rw [if_neg (by omega),if_neg h0,zjc,Option.bind_some,zdj,Option.bind_some,zai]
  by_cases h1:1≤varsF s∧varsF s≤4
  ·rw [if_pos h1]
   change ((slc L4 0 (varsF s)).bind fun z_9=>(zay z_9 s).bind fun y_16=>some y_16)=_
   have hA:=spec_L4 (varsF s).toNat (by omega)
   have hl:=L4_len (varsF s) (by omega)
   rw [slc_L4 _ (by omega),Option.bind_some]
   cases hi:isStrB (varsF s) s with
   | true =>
    rw [spec_text (okB_of hs hi h0) hA (by rw [hl];exact hi)]
    rfl
   | false =>
    rw [zoe hs hA (by rw [hl];exact hi)]
    rfl
  ·rw [if_neg h1]
   cases hi:isStrB (varsF s) s with
   | true=>exact absurd (zkw hi) h1
   | false=>rfl
theorem zrv {s:TStructure} (hs:shortS s):zeq s=some (keyF s):=by
 have hv:=znv s
 unfold zeq keyF
 simp only [eqI,zai]
 by_cases h0:s.nodes.length=0
 ·rw [if_pos (by omega),if_pos h0]
 ·rw [if_neg (by omega),if_neg h0,zhl,zjc,Option.bind_some]
  change ((slc L4 0 (minI (varsF s) 4)).bind fun z_9=>(zap z_9 s).bind fun y_16=>some y_16)=_
  by_cases h1:varsF s≤4
  ·have hm:minI (varsF s) 4=varsF s:=by unfold minI;rw [if_neg (by omega)]
   rw [hm,slc_L4 _ (by omega),Option.bind_some]
   by_cases h2:varsF s=0
   ·rw [h2]
    show ((zap [] s).bind _)=_
    rw [impl_noVars]
    cases hi:isStrB 0 s with
    | true=>have:=zkw hi;omega
    | false=>rfl
   ·have hA:=impl_L4 (varsF s).toNat (by omega)
    have hl:=L4_len (varsF s) (by omega)
    cases hi:isStrB (varsF s) s with
    | true =>
     rw [impl_text (okB_of hs hi h0) hA (by rw [hl];exact hi)]
     rfl
    | false =>
     rw [zjn hs hA (by rw [hl];exact hi)]
     rfl
  ·have hm:minI (varsF s) 4=4:=by unfold minI;rw [if_pos (by omega)]
   have hA:zcl (L4.take (4:Int).toNat)=some true:=impl_L4 4 (by omega)
   rw [hm,slc_L4 4 (by omega),Option.bind_some]
   have h4:isStrB ((L4.take (4:Int).toNat).length:Int) s=false:=by
    cases hi:isStrB ((L4.take (4:Int).toNat).length:Int) s with
    | false=>rfl
    | true =>
     have:=isStr_vars hi h0
     have e:((L4.take (4:Int).toNat).length:Int)=4:=rfl
     omega
   rw [zjn hs hA h4]
   cases hi:isStrB (varsF s) s with
   | true=>have:=zkw hi;omega
   | false=>rfl
end Go.Ev


namespace Go.Ev
open Wf (wf)
open Sm (sm lg)

theorem zre {s:TStructure} (h:sm s):sm (blurF s):=by
 unfold blurF
 split
 ·exact ⟨⟨by simp,by simp⟩,⟨by simp,by simp⟩⟩
 ·rename_i h0
  split
  ·rename_i hc
   have hG:=grp_ok (okB_of (zfk h) hc h0)
   have hl:=hG.l
   unfold blurG
   refine ⟨⟨by simp only [List.length_map];omega,fun y hy=>?_⟩,⟨?_,fun _ _=>trivial⟩⟩
   ·obtain ⟨g,hg,rfl⟩:=List.mem_map.1 hy
    obtain ⟨g0,_,g2⟩:=hG.e g hg
    have hz:=g2 _ (zly (List.length_pos_iff.2 g0) 0)
    have:=h.1.2 _ (zhc hz)
    exact ⟨this.1,this.2⟩
   ·simp only
    rw [zit _ _ (gsF s).length (fun x _=>by simp)]
    have:(gsF s).length * (gsF s).length≤10 * 10:=Nat.mul_le_mul (by omega) (by omega)
    omega
  ·exact h
theorem zrd (h:THeap):sm (strOf h):=by
 unfold strOf
 split
 ·split
  ·split
   ·rename_i h10 h4
    refine ⟨⟨by simp;omega,fun y hy=>?_⟩,⟨?_,fun _ _=>trivial⟩⟩
    ·simp only [List.mem_map,List.mem_range] at hy
     obtain ⟨i,hi,rfl⟩:=hy
     exact ⟨⟨by simp [nodeOf];omega,fun _ _=>trivial⟩,⟨by simp [nodeOf];omega,fun _ _=>trivial⟩⟩
    ·simp only
     rw [zmw]
     have:h.next.length * h.next.length≤10 * 10:=Nat.mul_le_mul h10 h10
     omega
   ·exact ⟨⟨by simp,by simp⟩,⟨by simp,by simp⟩⟩
  ·exact ⟨⟨by simp,by simp⟩,⟨by simp,by simp⟩⟩
 ·exact ⟨⟨by simp,by simp⟩,⟨by simp,by simp⟩⟩
end Go.Ev

