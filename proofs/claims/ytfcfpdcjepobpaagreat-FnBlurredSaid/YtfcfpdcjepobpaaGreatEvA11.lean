import Derived.Test.YtfcfpdcjepobpaaGreatEvA7
import Derived.Test.YtfcfpdcjepobpaaGreatEvA10
set_option linter.unusedSimpArgs false
set_option linter.unusedVariables false
set_option linter.unnecessarySimpa false
noncomputable section
namespace Go.Ev
def small (n:Nat):Prop:=n≤4000000

theorem findE {α:Type} (p:α→Bool):∀ (xs:List α) (i:Nat),
 foldE (β:=Unit) (ρ:=Int ⊕ Unit) (fun _ i x=>if p x then some (.inr (.inl (i:Int))) else some (.inl ())) (fun _=>some (.inr ())) () i xs =
  some (match xs.findIdx? p with | some j=>.inl ((i+j:Nat):Int) | none=>.inr ())
 | [],i=>rfl
 | x :: xs,i=>by
  rw [foldE]
  by_cases h:p x=true
  ·simp [h,List.findIdx?_cons]
  ·simp only [h,if_false,Bool.false_eq_true]
   rw [findE p xs (i+1),List.findIdx?_cons]
   simp only [h,if_false,Bool.false_eq_true]
   cases xs.findIdx? p with
   | none=>rfl
   | some j=>simp only [Option.map_some,Option.some.injEq,Sum.inl.injEq];omega

theorem index_int (xs:List Int) (v:Int) (hl:small xs.length):zde xs v=some (match xs.findIdx? (fun x=>decide (v=x)) with | some j=>(j:Int) | none=>-1):=by
 unfold zde
 rw [zgw xs (fun (_:Unit) i=>i) (fun _ i x=>if decide (v=x)=true then some (.inr (.inl (i:Int))) else some (.inl ())) (fun _=>some (.inr ())) (fun b i x hx=>?_) (fun b=>?_) (),findE]
 ·cases xs.findIdx? (fun x=>decide (v=x)) with
  | none=>rfl
  | some j=>simp
 ·have hlt:=(List.getElem?_eq_some_iff.1 hx).1
  unfold small at hl
  rw [zef,hx,zan (by omega) (by omega)]
  simp only [ltI,eqI,zae,Option.bind_some]
  rw [if_pos (by omega)]
  by_cases h:v=x <;> simp [h]
 ·simp [ltI]

theorem zir (xs:List Int) (v:Int) (hl:small xs.length):zar xs v=some (decide (v∈xs)):=by
 unfold zar
 rw [index_int xs v hl]
 simp only [Option.bind_some,leI,Option.some.injEq]
 cases h:xs.findIdx? (fun x=>decide (v=x)) with
 | none =>
  rw [List.findIdx?_eq_none_iff] at h
  have:v ∉ xs:=fun hm=>by simpa using h v hm
  simp [this]
 | some j =>
  rw [List.findIdx?_eq_some_iff_getElem] at h
  obtain ⟨hj,hp,_⟩:=h
  have:v∈xs:=by rw [of_decide_eq_true hp];exact List.getElem_mem hj
  simp [this]

theorem zeh (n lo hi:Int):zbm n lo hi=some (decide (lo≤n∧n≤hi)):=by
 unfold zbm
 by_cases h:lo≤n <;> simp [leI,ltI,h]
theorem zcq (n lo hi:Int):zbh n lo hi=some (decide (lo≤n∧n≤hi)):=by
 unfold zbh
 by_cases h:lo≤n <;> simp [leI,ltI,h]

theorem positions_eq:zey=zca:=rfl
theorem zow (a:Int):zcm a=zaz a:=by
 unfold zcm zaz
 simp [zeh,zcq]
def posF (n:Int):Nat→List Int→List Int
 | _,[]=>[]
 | i,x :: xs=>if x=n then (i:Int) :: posF n (i+1) xs else posF n (i+1) xs
theorem posE (n:Int) (N:Nat) (hN:small N):∀ (xs:List Int) (i:Nat) (acc:List Int),acc.length+xs.length≤N →
 foldE (β:=List Int) (ρ:=List Int) (fun acc i x=>if x=n then (room (acc.length+1) 8).bind fun _=>some (.inl (acc ++ [(i:Int)])) else some (.inl acc)) (fun acc=>some acc) acc i xs=some (acc ++ posF n i xs)
 | [],i,acc,_=>by simp [foldE,posF]
 | x :: xs,i,acc,h=>by
  rw [foldE]
  simp only [List.length_cons] at h
  by_cases hx:x=n
  ·unfold small at hN
   have hr:room (acc.length+1) 8=some ():=by unfold room maxBytes;rw [if_pos (by omega)]
   simp only [hx,if_true,hr,Option.bind_some]
   rw [posE n N hN xs (i+1) (acc ++ [(i:Int)]) (by simp;omega)]
   simp [posF,hx]
  ·simp only [hx,if_false]
   rw [posE n N hN xs (i+1) acc (by omega)]
   simp [posF,hx]
theorem positions (xs:List Int) (n:Int) (hl:small xs.length):zca xs n=some (posF n 0 xs):=by
 unfold zca
 rw [zgw xs (fun (b:List Int) i=>(b,i)) (fun acc i x=>if x=n then (room (acc.length+1) 8).bind fun _=>some (.inl (acc ++ [(i:Int)])) else some (.inl acc)) (fun acc=>some acc) (fun b i x hx=>?_) (fun b=>?_) [],posE n xs.length hl xs 0 [] (by simp)]
 ·simp
 ·have hlt:=(List.getElem?_eq_some_iff.1 hx).1
  unfold small at hl
  simp only [zef,hx,ltI,eqI,zae,Option.bind_some]
  rw [if_pos (by omega),zan (by omega) (by omega)]
  by_cases h:x=n
  ·simp only [h,if_true,List.length_singleton]
   cases room (b.length+1) 8 <;> rfl
  ·simp [h]
 ·simp [ltI]
theorem posF_mem (n:Int):∀ (xs:List Int) (i:Nat),0 < (posF n i xs).length ↔ n∈xs
 | [],i=>by simp [posF]
 | x :: xs,i=>by
  simp only [posF]
  by_cases h:x=n
  ·simp [h]
  ·have:=posF_mem n xs (i+1)
   simp only [h,if_false,this,List.mem_cons]
   constructor
   ·exact .inr
   ·rintro (h' | h')
    ·exact absurd h'.symm h
    ·exact h'
theorem l7Has (xs:List Int) (n:Int) (hl:small xs.length):zci xs n=some (decide (n∈xs)):=by
 unfold zci
 rw [positions xs n hl]
 have:=posF_mem n xs 0
 simp only [Option.bind_some,ltI,Option.some.injEq]
 rw [decide_eq_decide,← this]
 omega

theorem znf:∀ (n:Nat) (xs:List Int),xs.Nodup→(∀ x∈xs,0≤x∧x < n)→xs.length≤n
 | 0,xs,_,h=>by
  cases xs with
  | nil=>exact Nat.le_refl _
  | cons x xs=>have:=h x (List.mem_cons_self ..);omega
 | n+1,xs,hn,h=>by
  have h1:=znf n (xs.erase (n:Int)) (hn.erase _) (fun x hx=>by
   have hx':=(hn.mem_erase_iff).1 hx
   have:=h x hx'.2
   have hne:=hx'.1
   omega)
  by_cases hm:(n:Int)∈xs
  ·rw [List.length_erase_of_mem hm] at h1;omega
  ·rw [List.erase_of_not_mem hm] at h1;omega

theorem zil (h:THeap) (n:Int) (hs:small h.next.length):zbd h n=some (decide (0≤n∧n < (h.next.length:Int))):=by
 unfold zbd
 unfold small at hs
 rw [zeh,zay (by omega) (by omega)]
 simp only [Option.bind_some,Option.some.injEq,decide_eq_decide]
 omega

def fol (next:List Int):Nat→Int→List Int→(List Int) ⊕ Unit
 | 0,_,out=>.inl out
 | f+1,cur,out=>if cur = -1 then .inl out else if cur∈out then .inl out else if 0≤cur∧cur < (next.length:Int) then fol next f (next.getD cur.toNat 0) (out ++ [cur]) else .inr ()

theorem at_in {xs:List Int} {c:Int} (h:0≤c∧c < (xs.length:Int)):at? xs c=some (xs.getD c.toNat 0):=by
 unfold at?
 rw [if_pos h.1]
 have:c.toNat < xs.length:=by omega
 simp [List.getD,List.getElem?_eq_getElem this]
structure Seen (next out:List Int):Prop where
 nd:out.Nodup
 rng:∀ x∈out,0≤x∧x < (next.length:Int)
theorem Seen.len {next out:List Int} (h:Seen next out):out.length≤next.length:=znf _ _ h.nd h.rng
theorem Seen.push {next out:List Int} (h:Seen next out) {c:Int} (hc:c ∉ out) (hr:0≤c∧c < (next.length:Int)):Seen next (out ++ [c]) :=
 ⟨by rw [List.nodup_append];exact ⟨h.nd,by simp,fun a ha b hb=>by simp at hb;subst hb;rintro rfl;exact hc ha⟩,fun x hx=>by
  rcases List.mem_append.1 hx with hx | hx
  ·exact h.rng x hx
  ·simp at hx;subst hx;exact hr⟩

theorem spec_fol (h:THeap) (hs:small h.next.length):∀ (f:Nat) (cur:Int) (out:List Int),Seen h.next out→h.next.length+1≤f+out.length →
 iter (ρ:=((List Int)) ⊕ (Unit)) (fun s_1:Int × (List Int) =>
  cond (neI s_1.1 (-1))
   ((zci s_1.2 s_1.1).bind fun y_12 =>
    cond y_12
     (some (.inr (.inl s_1.2)))
     ((zbh s_1.1 0 (subI (h.next.length:Int) 1)).bind fun y_16 =>
      cond y_16
       ((room (s_1.2.length + [s_1.1].length) 8).bind fun _ =>
        (at? h.next s_1.1).bind fun e_22 =>
         some (.inl (e_22,s_1.2 ++ [s_1.1])))
       (some (.inr (.inr ())))))
   (some (.inr (.inl s_1.2)))) (cur,out)=some (fol h.next f cur out)
 | 0,cur,out,hS,hf=>by have:=hS.len;omega
 | f+1,cur,out,hS,hf=>by
  have hl:=hS.len
  have hs':=hs
  unfold small at hs'
  have hso:small out.length:=by unfold small;omega
  by_cases h1:cur = -1
  ·rw [zfa (r:=.inl out) (by simp [neI,h1])]
   simp [fol,h1]
  ·by_cases h2:cur∈out
   ·rw [zfa (r:=.inl out) (by simp [neI,h1,l7Has out cur hso,h2])]
    simp [fol,h1,h2]
   ·by_cases h3:0≤cur∧cur < (h.next.length:Int)
    ·have hr:room (out.length+1) 8=some ():=by unfold room maxBytes;rw [if_pos (by omega)]
     rw [zjd (s':=(h.next.getD cur.toNat 0,out ++ [cur])) (by
      have h4:0≤cur∧cur≤(h.next.length:Int) - 1:=by omega
      simp only [neI,h1,decide_false,Bool.not_false,cond_true,l7Has out cur hso,h2,Option.bind_some,cond_false,zcq,zay (a:=(h.next.length:Int)) (b:=1) (by omega) (by omega),h4,and_self,decide_true,List.length_singleton,hr,at_in h3]),
      spec_fol h hs f _ _ (hS.push h2 h3) (by simp;omega)]
     simp [fol,h1,h2,h3]
    ·rw [zfa (r:=.inr ()) (by
      have h4:¬ (0≤cur∧cur≤(h.next.length:Int) - 1):=by omega
      simp only [neI,h1,decide_false,Bool.not_false,cond_true,l7Has out cur hso,h2,Option.bind_some,cond_false,zcq,zay (a:=(h.next.length:Int)) (b:=1) (by omega) (by omega),h4])]
     simp [fol,h1,h2,h3]

def folL (next:List Int) (c:Int):List Int:=Sum.elim id (fun _=>[]) (fol next (next.length+1) c [])
theorem zhs (h:THeap) (hs:small h.next.length) (c:Int):zcu h c=some (folL h.next c):=by
 unfold zcu
 rw [spec_fol h hs (h.next.length+1) c [] ⟨by simp,by simp⟩ (by simp)]
 unfold folL
 cases fol h.next (h.next.length+1) c [] <;> rfl

theorem impl_fol (h:THeap) (hs:small h.next.length) (cell:Int) (hc:cell≠-1):∀ (f:Nat) (cur:Int) (out:List Int),Seen h.next out→h.next.length+1≤f+out.length →
 iter (ρ:=((List Int)) ⊕ (Unit)) (fun s_1:(List Int) × Int =>
  cond (neI s_1.2 (-1))
   ((zbd h s_1.2).bind fun y_13 =>
    cond y_13
     ((zar s_1.1 s_1.2).bind fun y_17 =>
      cond y_17
       (some (.inr (.inl s_1.1)))
       ((room (s_1.1.length + [s_1.2].length) 8).bind fun _ =>
        (at? h.next s_1.2).bind fun e_23 =>
         some (.inl (s_1.1 ++ [s_1.2],e_23))))
     (some (.inr (.inr ()))))
   (cond (eqI cell (-1))
    ((zbd h s_1.2).bind fun y_29 =>
     cond y_29
      ((zar s_1.1 s_1.2).bind fun y_33 =>
       cond y_33
        (some (.inr (.inl s_1.1)))
        ((room (s_1.1.length + [s_1.2].length) 8).bind fun _ =>
         (at? h.next s_1.2).bind fun e_39 =>
          some (.inl (s_1.1 ++ [s_1.2],e_39))))
      (some (.inr (.inr ()))))
    (some (.inr (.inl s_1.1))))) (out,cur)=some (fol h.next f cur out)
 | 0,cur,out,hS,hf=>by have:=hS.len;omega
 | f+1,cur,out,hS,hf=>by
  have hl:=hS.len
  have hs':=hs
  unfold small at hs'
  have hso:small out.length:=by unfold small;omega
  by_cases h1:cur = -1
  ·rw [zfa (r:=.inl out) (by simp [neI,eqI,h1,hc])]
   simp [fol,h1]
  ·by_cases h3:0≤cur∧cur < (h.next.length:Int)
   ·by_cases h2:cur∈out
    ·rw [zfa (r:=.inl out) (by simp [neI,h1,zil h cur hs,h3,zir out cur hso,h2])]
     simp [fol,h1,h2]
    ·have hr:room (out.length+1) 8=some ():=by unfold room maxBytes;rw [if_pos (by omega)]
     rw [zjd (s':=(out ++ [cur],h.next.getD cur.toNat 0)) (by
      simp only [neI,h1,decide_false,Bool.not_false,cond_true,zil h cur hs,h3,zir out cur hso,h2,Option.bind_some,cond_false,and_self,decide_true,List.length_singleton,hr,at_in h3]),
      impl_fol h hs cell hc f _ _ (hS.push h2 h3) (by simp;omega)]
     simp [fol,h1,h2,h3]
   ·have h2:cur ∉ out:=fun hm=>h3 (hS.rng cur hm)
    rw [zfa (r:=.inr ()) (by simp only [neI,h1,decide_false,Bool.not_false,cond_true,zil h cur hs,h3,Option.bind_some,cond_false])]
    simp [fol,h1,h2,h3]

theorem zqh (h:THeap) (hs:small h.next.length) (c:Int):zes h c=some (folL h.next c):=by
 unfold zes
 by_cases hc:c = -1
 ·rw [zfa (r:=.inr ()) (by
   have:¬ (0≤c∧c < (h.next.length:Int)):=by omega
   simp [neI,eqI,hc,zil h _ hs])]
  simp [folL,fol,hc]
 ·rw [impl_fol h hs c hc (h.next.length+1) c [] ⟨by simp,by simp⟩ (by simp)]
  unfold folL
  cases fol h.next (h.next.length+1) c [] <;> rfl
theorem folL_len (next:List Int) (c:Int):(folL next c).length≤next.length:=by
 have key:∀ f cur out,Seen next out→(Sum.elim id (fun _=>[]) (fol next f cur out):List Int).length≤next.length:=by
  intro f
  induction f with
  | zero=>intro cur out hS;exact hS.len
  | succ f ih =>
   intro cur out hS
   simp only [fol]
   split
   ·exact hS.len
   ·split
    ·exact hS.len
    ·rename_i h2
     split
     ·rename_i h3;exact ih _ _ (hS.push h2 h3)
     ·simp
 exact key _ _ _ ⟨by simp,by simp⟩

theorem allE {α ρ:Type} (p:α→Bool) (rf rt:ρ):∀ (xs:List α) (i:Nat),foldE (β:=Unit) (fun _ _ x=>if p x then some (.inl ()) else some (.inr rf)) (fun _=>some rt) () i xs=some (if xs.all p then rt else rf)
 | [],_=>rfl
 | x :: xs,i=>by
  rw [foldE]
  by_cases h:p x=true
  ·simp only [h,if_true]
   rw [allE p rf rt xs (i+1)]
   simp [h]
  ·simp [h]
def inH (next:List Int) (n:Int):Bool:=decide (-1≤n∧n≤(next.length:Int) - 1)
def cellsB (h:THeap):Bool:=h.vars.all (inH h.next) && h.next.all (inH h.next)
theorem l7Cells (h:THeap) (hv:small h.vars.length) (hs:small h.next.length):zdr h=some (cellsB h):=by
 have hv':=hv
 have hs':=hs
 unfold small at hv' hs'
 unfold zdr
 rw [zgw h.vars (fun (_:Unit) i=>i) (fun _ _ x=>if inH h.next x then some (.inl ()) else some (.inr (.inl ()))) (fun _=>some (.inr ())) (fun b i x hx=>?_) (fun b=>?_) (),allE]
 ·simp only [Option.bind_some]
  by_cases h1:h.vars.all (inH h.next)=true
  ·rw [if_pos h1]
   simp only [Sum.elim_inr]
   rw [zgw h.next (fun (_:Unit) i=>i) (fun _ _ x=>if inH h.next x then some (.inl ()) else some (.inr (.inl false))) (fun _=>some (.inr ())) (fun b i x hx=>?_) (fun b=>?_) (),allE]
   ·by_cases h2:h.next.all (inH h.next)=true
    ·simp only [h2,if_true,Option.bind_some,Sum.elim_inr,cellsB,h1,Bool.and_self]
    ·simp only [h2,if_false,Option.bind_some,Sum.elim_inl,cellsB,h1,Bool.true_and,Bool.false_eq_true]
   ·have hlt:=(List.getElem?_eq_some_iff.1 hx).1
    simp only [zef,hx,ltI,zae,Option.bind_some,zcq]
    rw [if_pos (by omega),zan (by omega) (by omega),zay (by omega) (by omega)]
    by_cases h3:-1≤x∧x≤(h.next.length:Int) - 1 <;> simp [inH,h3]
   ·simp [ltI]
  ·rw [if_neg h1]
   simp [cellsB,h1]
 ·have hlt:=(List.getElem?_eq_some_iff.1 hx).1
  simp only [zef,hx,ltI,zae,Option.bind_some,zcq]
  rw [if_pos (by omega),zan (by omega) (by omega),zay (by omega) (by omega)]
  by_cases h3:-1≤x∧x≤(h.next.length:Int) - 1 <;> simp [inH,h3]
 ·simp [ltI]

theorem indexF {α:Type} (xs:List α) (f:α→Option Bool) (p:α→Bool) (hf:∀ x∈xs,f x=some (p x)) (hl:small xs.length) :
 iter (ρ:=(Int) ⊕ (Unit)) (fun s_1:Int =>
  cond (ltI s_1 (xs.length:Int))
   ((at? xs s_1).bind fun e_12 =>
    (f e_12).bind fun y_17 =>
     cond y_17
      (some (.inr (.inl s_1)))
      (some (.inl (addI s_1 1))))
   (some (.inr (.inr ())))) 0=some (match xs.findIdx? p with | some j=>.inl (j:Int) | none=>.inr ()):=by
 rw [zgw xs (fun (_:Unit) i=>i) (fun _ i x=>if p x=true then some (.inr (.inl (i:Int))) else some (.inl ())) (fun _=>some (.inr ())) (fun b i x hx=>?_) (fun b=>?_) (),findE]
 ·simp
 ·have hlt:=(List.getElem?_eq_some_iff.1 hx).1
  unfold small at hl
  simp only [zef,hx,Option.bind_some,ltI,zae,hf x (List.mem_of_getElem? hx)]
  rw [if_pos (by omega),zan (by omega) (by omega)]
  cases p x <;> simp
 ·simp [ltI]
theorem zlz {α:Type} (xs:List α) (p:α→Bool):leI 0 (match xs.findIdx? p with | some j=>(j:Int) | none=>-1)=xs.any p:=by
 cases h:xs.findIdx? p with
 | none =>
  rw [List.findIdx?_eq_none_iff] at h
  have:xs.any p=false:=List.any_eq_false.2 fun x hx=>by simp [h x hx]
  rw [this];rfl
 | some j =>
  rw [List.findIdx?_eq_some_iff_getElem] at h
  obtain ⟨hj,hp,_⟩:=h
  have:xs.any p=true:=List.any_eq_true.2 ⟨_,List.getElem_mem hj,hp⟩
  rw [this]
  simp [leI]
theorem zig (xs:List Int) (f:Int→Option Bool) (p:Int→Bool) (hf:∀ x∈xs,f x=some (p x)) (hl:small xs.length):zbb xs f=some (xs.any p):=by
 unfold zbb zeg
 rw [indexF xs f p hf hl,← zlz]
 cases xs.findIdx? p <;> rfl
theorem zao {n b:Nat} (hn:n≤4000000) (hb:b≤1000):room n b=some ():=by
 unfold room maxBytes
 have:n * (b+1)≤4000000 * 1001:=Nat.mul_le_mul hn (by omega)
 rw [if_pos (by omega)]
theorem areCells (h:THeap) (hvs:small (h.vars ++ h.next).length) (hv:small h.vars.length) (hs:small h.next.length):zch h=some (cellsB h):=by
 have hv':=hv
 have hs':=hs
 unfold small at hv' hs'
 have hc:zdn [h.vars,h.next]=some (h.vars ++ h.next):=by
  unfold zdn zjc
  rw [zao (by simp) (by omega),zao (by unfold small at hvs;simpa using hvs) (by omega)]
  simp
 unfold zch
 rw [hc]
 have hp:∀ n:Int,zbn n h=some (!inH h.next n):=fun n=>by
  unfold zbn
  rw [zil h n hs]
  by_cases h1:n = -1
  ·simp [neI,h1,inH];omega
  ·simp only [neI,h1,decide_false,Bool.not_false,cond_true,Option.bind_some,Option.some.injEq,inH]
   have:(0≤n∧n < (h.next.length:Int)) ↔ (-1≤n∧n≤(h.next.length:Int) - 1):=by omega
   rw [decide_eq_decide.2 this]
   rfl
 have hcf:zbb (h.vars ++ h.next) (fun x0=>zbn x0 h)=some ((h.vars ++ h.next).any fun n=>!inH h.next n):=by
  exact zig _ _ _ (fun x _=>hp x) hvs
 simp only [Option.bind_some,hcf,cellsB,List.any_append,Option.some.injEq]
 rw [← List.not_all_eq_any_not,← List.not_all_eq_any_not]
 cases h.vars.all (inH h.next) <;> cases h.next.all (inH h.next) <;> rfl

theorem zip (next:List Int) (c:Int):Seen next (folL next c):=by
 have key:∀ f cur out,Seen next out→Seen next (Sum.elim id (fun _=>[]) (fol next f cur out):List Int):=by
  intro f
  induction f with
  | zero=>intro cur out hS;exact hS
  | succ f ih =>
   intro cur out hS
   simp only [fol]
   split
   ·exact hS
   ·split
    ·exact hS
    ·rename_i h2
     split
     ·rename_i h3;exact ih _ _ (hS.push h2 h3)
     ·exact ⟨by simp,by simp⟩
 exact key _ _ _ ⟨by simp,by simp⟩
def push (acc:List Int) (x:Int):List Int:=if x∈acc then acc else acc ++ [x]
theorem Seen.push' {next out:List Int} (h:Seen next out) {c:Int} (hr:0≤c∧c < (next.length:Int)):Seen next (Go.Ev.push out c):=by
 unfold Go.Ev.push
 split
 ·exact h
 ·rename_i hc;exact h.push hc hr
theorem Seen.pushs {next:List Int}:∀ (ys out:List Int),Seen next out→(∀ x∈ys,0≤x∧x < (next.length:Int))→Seen next (ys.foldl Go.Ev.push out)
 | [],_,h,_=>h
 | y :: ys,out,h,hr=>Seen.pushs ys _ (h.push' (hr y (List.mem_cons_self ..))) fun x hx=>hr x (List.mem_cons_of_mem _ hx)
theorem pushE (next:List Int) (hs:small next.length) (q:List Int→Int→Option Bool) (hq:∀ acc x,small acc.length→q acc x=some (decide (x∈acc))):∀ (ys:List Int) (i:Nat) (acc:List Int),Seen next acc→(∀ x∈ys,0≤x∧x < (next.length:Int)) →
 foldE (β:=List Int) (ρ:=List Int) (fun acc _ x=>(q acc x).bind fun b=>cond b (some (.inl acc)) ((room (acc.length+1) 8).bind fun _=>some (.inl (acc ++ [x])))) (fun acc=>some acc) acc i ys=some (ys.foldl push acc)
 | [],_,_,_,_=>rfl
 | y :: ys,i,acc,h,hr=>by
  have hl:=h.len
  unfold small at hs
  have hsa:small acc.length:=by unfold small;omega
  rw [foldE]
  by_cases hm:y∈acc
  ·simp only [hq acc y hsa,hm,decide_true,Option.bind_some,cond_true]
   rw [pushE next hs q hq ys (i+1) acc h fun x hx=>hr x (List.mem_cons_of_mem _ hx)]
   simp [push,hm]
  ·have hroom:room (acc.length+1) 8=some ():=by unfold room maxBytes;rw [if_pos (by omega)]
   simp only [hq acc y hsa,hm,decide_false,Option.bind_some,cond_false,hroom]
   rw [pushE next hs q hq ys (i+1) _ (h.push hm (hr y (List.mem_cons_self ..))) fun x hx=>hr x (List.mem_cons_of_mem _ hx)]
   simp [push,hm]
def ordL (next vars:List Int):List Int:=vars.foldl (fun acc e=>(folL next e).foldl push acc) []
theorem ordSeen (next:List Int):∀ (vs acc:List Int),Seen next acc→Seen next (vs.foldl (fun acc e=>(folL next e).foldl push acc) acc)
 | [],_,h=>h
 | v :: vs,acc,h=>ordSeen next vs _ (Seen.pushs _ _ h (zip next v).rng)

theorem ordE (next:List Int) (F:List Int→Int→Option (List Int)) (hF:∀ acc e,Seen next acc→F acc e=some ((folL next e).foldl push acc)):∀ (vs:List Int) (i:Nat) (acc:List Int),Seen next acc →
 foldE (β:=List Int) (ρ:=List Int) (fun acc _ e=>(F acc e).map .inl) (fun acc=>some acc) acc i vs=some (vs.foldl (fun acc e=>(folL next e).foldl push acc) acc)
 | [],_,_,_=>rfl
 | v :: vs,i,acc,h=>by
  rw [foldE,hF acc v h]
  simp only [Option.map_some]
  rw [ordE next F hF vs (i+1) _ (Seen.pushs _ _ h (zip next v).rng)]
  rfl
theorem l7Order (h:THeap) (hv:small h.vars.length) (hs:small h.next.length):zel h=some (ordL h.next h.vars):=by
 unfold zel
 have hv':=hv
 unfold small at hv'
 rw [zgw h.vars (fun (b:List Int) i=>(b,i)) (fun acc _ e=>(iter (ρ:=(List Int)) (fun s_22:Int × (List Int) =>
               cond (ltI s_22.1 ((folL h.next e).length:Int))
                ((at? (folL h.next e) s_22.1).bind fun e_38 =>
                 (zci s_22.2 e_38).bind fun y_43 =>
                  cond y_43
                   (some (.inl (addI s_22.1 1,s_22.2)))
                   ((at? (folL h.next e) s_22.1).bind fun _ =>
                    (room (s_22.2.length + [e_38].length) 8).bind fun _ =>
                     some (.inl (addI s_22.1 1,s_22.2 ++ [e_38]))))
                (some (.inr s_22.2))) (0,acc)).map .inl) (fun acc=>some acc) (fun b i x hx=>?_) (fun b=>?_) []]
 ·rw [ordE h.next (fun acc e=>iter (ρ:=(List Int)) (fun s_22:Int × (List Int) =>
             cond (ltI s_22.1 ((folL h.next e).length:Int))
              ((at? (folL h.next e) s_22.1).bind fun e_38 =>
               (zci s_22.2 e_38).bind fun y_43 =>
                cond y_43
                 (some (.inl (addI s_22.1 1,s_22.2)))
                 ((at? (folL h.next e) s_22.1).bind fun _ =>
                  (room (s_22.2.length + [e_38].length) 8).bind fun _ =>
                   some (.inl (addI s_22.1 1,s_22.2 ++ [e_38]))))
              (some (.inr s_22.2))) (0,acc)) (fun acc e hS=>?_) h.vars 0 [] ⟨by simp,by simp⟩]
  ·rfl
  ·have hfl:=folL_len h.next e
   have hs':=hs
   unfold small at hs'
   rw [zgw (folL h.next e) (fun (b:List Int) i=>(i,b)) (fun acc _ x=>(zci acc x).bind fun b=>cond b (some (.inl acc)) ((room (acc.length+1) 8).bind fun _=>some (.inl (acc ++ [x])))) (fun acc=>some acc) (fun b i x hx=>?_) (fun b=>?_) acc,
    pushE h.next hs zci l7Has _ _ _ hS (zip h.next e).rng]
   ·have hlt:=(List.getElem?_eq_some_iff.1 hx).1
    simp only [zef,hx,Option.bind_some,ltI,zae]
    rw [if_pos (by omega),zan (by omega) (by omega)]
    cases zci b x with
    | none=>rfl
    | some t =>
     cases t with
     | true=>rfl
     | false =>
      simp only [Option.bind_some,cond_false,List.length_singleton]
      cases room (b.length+1) 8 <;> rfl
   ·simp [ltI]
 ·have hlt:=(List.getElem?_eq_some_iff.1 hx).1
  simp only [zef,hx,Option.bind_some,ltI,zae,zhs h hs]
  rw [if_pos (by omega),zan (by omega) (by omega)]
  generalize iter _ _=r
  cases r <;> rfl
 ·simp [ltI]

def Tot {α:Type} (o:Option α) (Q:α→Prop):Prop:=∃ a,o=some a∧Q a
theorem Tot.ret {α:Type} {a:α} {Q:α→Prop} (h:Q a):Tot (some a) Q:=⟨a,rfl,h⟩
theorem Tot.bind {α β:Type} {o:Option α} {f:α→Option β} {P:α→Prop} {Q:β→Prop} (h:Tot o P) (hf:∀ a,P a→Tot (f a) Q):Tot (o.bind f) Q:=by
 obtain ⟨a,rfl,hP⟩:=h
 exact hf a hP
theorem Tot.mono {α:Type} {o:Option α} {P Q:α→Prop} (h:Tot o P) (hq:∀ a,P a→Q a):Tot o Q:=by
 obtain ⟨a,h1,h2⟩:=h
 exact ⟨a,h1,hq a h2⟩
theorem Tot.eq {α:Type} {o:Option α} {a:α} (h:Tot o (· = a)):o=some a:=by
 obtain ⟨b,h1,rfl⟩:=h
 exact h1
theorem Tot.of {α:Type} {o:Option α} {a:α} {Q:α→Prop} (h:o=some a) (hq:Q a):Tot o Q:=⟨a,h,hq⟩
theorem Tot.loop {σ ρ:Type} {step:σ→Option (σ ⊕ ρ)} {Q:ρ→Prop} (I:Nat→σ→Prop) (n:Nat) {s:σ} (h0:I 0 s)
 (h:∀ i s,I i s→i≤n→Tot (step s) (Sum.elim (fun s'=>i < n∧I (i+1) s') Q)):Tot (iter step s) Q:=by
 have key:∀ (k i:Nat) (s:σ),I i s→i+k=n→Tot (iter step s) Q:=by
  intro k
  induction k with
  | zero =>
   intro i s hI hk
   obtain ⟨o,ho,hq⟩:=h i s hI (by omega)
   cases o with
   | inl s'=>exact absurd hq.1 (by omega)
   | inr r=>exact ⟨r,zfa ho,hq⟩
  | succ k ih =>
   intro i s hI hk
   obtain ⟨o,ho,hq⟩:=h i s hI (by omega)
   cases o with
   | inl s'=>rw [zjd ho];exact ih (i+1) s' hq.2 (by omega)
   | inr r=>exact ⟨r,zfa ho,hq⟩
 exact key n 0 s h0 (by omega)
theorem loop_flat {α γ σ:Type} (S:List γ→Int→σ) (lo:Int) (xs:List α) (g:α→List γ) {acc:List γ} {step:σ→Option (σ ⊕ List γ)}
 (h:∀ (i:Nat) x b,xs[i]?=some x→b.length+(g x).length≤acc.length+(xs.flatMap g).length→step (S b (lo+i))=some (.inl (S (b ++ g x) (lo+i+1))))
 (he:∀ b,step (S b (lo+xs.length))=some (.inr b)):iter step (S acc lo)=some (acc ++ xs.flatMap g):=by
 have key:∀ (suf:List α) (i:Nat) (b:List γ),xs.drop i=suf→i+suf.length=xs.length→b.length+(suf.flatMap g).length=acc.length+(xs.flatMap g).length →
  iter step (S b (lo+i))=some (b ++ suf.flatMap g):=by
  intro suf
  induction suf with
  | nil =>
   intro i b _ hi _
   simp only [List.length_nil,Nat.add_zero] at hi
   subst hi
   rw [zfa (he b)];simp
  | cons x suf ih =>
   intro i b hd hi hb
   have hx:xs[i]?=some x:=by
    have:=congrArg (fun l=>l[0]?) hd
    simpa using this
   have hd2:xs.drop (i+1)=suf:=by
    have:=congrArg List.tail hd
    simpa using this
   simp only [List.length_cons] at hi
   simp only [List.flatMap_cons,List.length_append] at hb
   rw [zjd (h i x b hx (by omega))]
   have:=ih (i+1) (b ++ g x) hd2 (by omega) (by simp only [List.length_append];omega)
   rw [show lo+(i:Int)+1=lo+((i+1:Nat):Int) by omega,this]
   simp
 have:=key xs 0 acc rfl (by simp) rfl
 simpa using this
def nx (next:List Int) (c:Int):Int:=if c = -1 then -1 else next.getD c.toNat 0
def orb (next:List Int):Nat→Int→Int
 | 0,c=>c
 | k+1,c=>nx next (orb next k c)
def orbs (next:List Int) (c:Int) (m:Nat):List Int:=(List.range m).map fun k=>orb next k c
theorem zjt (next:List Int) (c:Int):∀ a b,orb next (a+b) c=orb next a (orb next b c)
 | 0,b=>by simp [orb]
 | a+1,b=>by rw [show a+1+b=(a+b)+1 by omega,orb,zjt next c a b,orb]
theorem zpv (next:List Int):∀ k,orb next k (-1) = -1
 | 0=>rfl
 | k+1=>by rw [orb,zpv next k];simp [nx]
def Cells (next:List Int):Prop:=∀ x∈next,-1≤x∧x < (next.length:Int)
theorem nx_in {next:List Int} (hC:Cells next) {c:Int} (h:-1≤c∧c < (next.length:Int)):-1≤nx next c∧nx next c < (next.length:Int):=by
 unfold nx
 split
 ·omega
 ·have hlt:c.toNat < next.length:=by omega
  have:=hC _ (List.getElem_mem hlt)
  simpa [List.getD,List.getElem?_eq_getElem hlt] using this
theorem orb_in {next:List Int} (hC:Cells next) {c:Int} (h:-1≤c∧c < (next.length:Int)):∀ k,-1≤orb next k c∧orb next k c < (next.length:Int)
 | 0=>h
 | k+1=>nx_in hC (orb_in hC h k)
theorem znd (next:List Int) (c:Int) (m:Nat):orbs next c (m+1)=orbs next c m ++ [orb next m c]:=by simp [orbs,List.range_succ]
theorem orbs_mem {next:List Int} {c x:Int} {m:Nat}:x∈orbs next c m ↔ ∃ k,k < m∧orb next k c=x:=by simp [orbs]
theorem fol_orb {next:List Int} (hC:Cells next) {c:Int} (hc:-1≤c∧c < (next.length:Int)):∀ (f m:Nat),Seen next (orbs next c m)→next.length+1≤f+m →
 ∃ m',fol next f (orb next m c) (orbs next c m)=.inl (orbs next c m')∧(orb next m' c = -1∨∃ k,k < m'∧orb next k c=orb next m' c)
 | 0,m,hS,hf=>by
  have:=hS.len
  simp only [orbs,List.length_map,List.length_range] at this
  omega
 | f+1,m,hS,hf=>by
  rw [fol]
  by_cases h1:orb next m c = -1
  ·exact ⟨m,by simp [h1],.inl h1⟩
  ·rw [if_neg h1]
   by_cases h2:orb next m c∈orbs next c m
   ·exact ⟨m,by simp [h2],.inr (orbs_mem.1 h2)⟩
   ·have h3:=orb_in hC hc m
    have h4:0≤orb next m c∧orb next m c < (next.length:Int):=by omega
    rw [if_neg h2,if_pos h4,← znd]
    have hn:next.getD (orb next m c).toNat 0=orb next (m+1) c:=by rw [orb,nx,if_neg h1]
    rw [hn]
    exact fol_orb hC hc f (m+1) (by rw [znd];exact hS.push h2 h4) (by omega)
theorem zqo {next:List Int} (hC:Cells next) {c:Int} (hc:-1≤c∧c < (next.length:Int)):∃ m,folL next c=orbs next c m∧(orb next m c = -1∨∃ k,k < m∧orb next k c=orb next m c):=by
 obtain ⟨m,h1,h2⟩:=fol_orb hC hc (next.length+1) 0 ⟨by simp [orbs],by simp [orbs]⟩ (by omega)
 refine ⟨m,?_,h2⟩
 unfold folL
 have:fol next (next.length+1) c []=.inl (orbs next c m):=by simpa [orbs,orb] using h1
 rw [this]
 rfl
theorem folL_mem {next:List Int} (hC:Cells next) {c:Int} (hc:-1≤c∧c < (next.length:Int)):∀ (k:Nat),orb next k c≠-1→orb next k c∈folL next c:=by
 obtain ⟨m,h1,h2⟩:=zqo hC hc
 rw [h1]
 intro k
 induction k using Nat.strongRecOn with
 | _ k ih =>
  intro hk
  by_cases hlt:k < m
  ·exact orbs_mem.2 ⟨k,hlt,rfl⟩
  ·have e:orb next k c=orb next (k - m) (orb next m c):=by rw [← zjt];congr 1;omega
   rcases h2 with h2 | ⟨j,hj,h2⟩
   ·rw [e,h2,zpv] at hk
    exact absurd rfl hk
   ·rw [← h2,← zjt] at e
    rw [e] at hk ⊢
    exact ih _ (by omega) hk
theorem orb_per {next:List Int} {i:Int} {p:Nat} (h:orb next p i=i):∀ q,orb next (q * p) i=i
 | 0=>by simp [orb]
 | q+1=>by rw [Nat.add_mul,Nat.one_mul,zjt,h,orb_per h q]
def cyc (next:List Int):Bool:=(List.range next.length).any fun i=>decide ((i:Int)∈folL next (nx next i))
def lastI (xs:List Int):Int:=xs.getD (xs.length - 1) 0
theorem zqv {next:List Int} (hC:Cells next):(∀ i:Nat,i < next.length→folL next i≠[]∧nx next (lastI (folL next i)) = -1) ↔ cyc next=false:=by
 have hlast:∀ i:Nat,i < next.length→∃ m,folL next i=orbs next i (m+1)∧nx next (lastI (folL next i))=orb next (m+1) i∧(orb next (m+1) i = -1∨∃ k,k < m+1∧orb next k i=orb next (m+1) i):=by
  intro i hi
  obtain ⟨m,h1,h2⟩:=zqo hC (c:=i) (by omega)
  cases m with
  | zero =>
   rcases h2 with h2 | ⟨k,hk,_⟩
   ·simp only [orb] at h2;omega
   ·omega
  | succ m =>
   refine ⟨m,h1,?_,h2⟩
   rw [h1]
   have:lastI (orbs next i (m+1))=orb next m i:=by
    unfold lastI
    rw [znd]
    simp [List.getD]
   rw [this]
   rfl
 constructor
 ·intro hA
  unfold cyc
  rw [List.any_eq_false]
  intro i hi
  simp only [List.mem_range] at hi
  simp only [decide_eq_true_eq]
  intro hm
  obtain ⟨m,_,h2,_⟩:=hlast i hi
  have h3:=(hA i hi).2
  rw [h2] at h3
  obtain ⟨m',h4,_⟩:=zqo hC (nx_in hC (c:=i) (by omega))
  rw [h4,orbs_mem] at hm
  obtain ⟨k,_,hk⟩:=hm
  have h5:orb next (k+1) i=i:=by rw [zjt];exact hk
  have h6:=orb_per h5 (m+1)
  have h7:orb next ((m+1) * (k+1)) i=orb next ((m+1) * k) (orb next (m+1) i):=by rw [← zjt];congr 1
  rw [h7,h3,zpv] at h6
  omega
 ·intro hB i hi
  obtain ⟨m,h1,h2,h3⟩:=hlast i hi
  refine ⟨by rw [h1];simp [orbs],?_⟩
  rw [h2]
  rcases h3 with h3 | ⟨k,hk,h3⟩
  ·exact h3
  ·exfalso
   have hS:Seen next (orbs next i (m+1)):=h1 ▸ zip next i
   have hj:=hS.rng (orb next m i) (orbs_mem.2 ⟨m,by omega,rfl⟩)
   have hB':=(List.any_eq_false.1 hB) (orb next m i).toNat (by simp only [List.mem_range];omega)
   simp only [decide_eq_true_eq] at hB'
   rw [show ((orb next m i).toNat:Int)=orb next m i by omega] at hB'
   apply hB'
   have e1:nx next (orb next m i)=orb next k i:=h3.symm
   have e2:orb next m i=orb next (m - k) (orb next k i):=by rw [← zjt];congr 1;omega
   rw [e1]
   have:=folL_mem hC (orb_in hC (c:=i) (by omega) k) (m - k) (by rw [← e2];omega)
   rw [← e2] at this
   exact this
theorem zmw {next:List Int} (hs:small next.length) (c:Int):small (folL next c).length:=Nat.le_trans (folL_len next c) hs
theorem lastI_at {xs:List Int} (h:xs≠[]) (hl:small xs.length):at? xs (subI (xs.length:Int) 1)=some (lastI xs):=by
 have:0 < xs.length:=List.length_pos_iff.2 h
 unfold small at hl
 rw [zay (by omega) (by omega)]
 unfold at? lastI
 rw [if_pos (by omega),show ((xs.length:Int) - 1).toNat=xs.length - 1 by omega]
 rw [List.getElem?_eq_getElem (by omega)]
 simp [List.getD,List.getElem?_eq_getElem (show xs.length - 1 < xs.length by omega)]
theorem lastI_mem {xs:List Int} (h:xs≠[]):lastI xs∈xs:=by
 have:0 < xs.length:=List.length_pos_iff.2 h
 unfold lastI
 simp [List.getD,List.getElem?_eq_getElem (show xs.length - 1 < xs.length by omega)]
theorem spec_acyclic (h:THeap) (hs:small h.next.length) (hC:Cells h.next):zdy h=some (!cyc h.next):=by
 unfold zdy
 have hs':=hs
 unfold small at hs'
 have key:Tot (iter (ρ:=(Unit) ⊕ (Unit)) (fun s_1:Int =>
  cond (ltI s_1 (h.next.length:Int))
   ((zcu h s_1).bind fun y_11 =>
    cond (eqI (y_11.length:Int) 0)
     (some (.inr (.inl ())))
     ((at? y_11 (subI (y_11.length:Int) 1)).bind fun e_15 =>
      (at? h.next e_15).bind fun e_20 =>
       cond (neI e_20 (-1))
        (some (.inr (.inl ())))
        (some (.inl (addI s_1 1)))))
   (some (.inr (.inr ())))) 0) (fun r=>Sum.elim (fun _=>some false) (fun _=>some true) r=some (!cyc h.next)):=by
  refine Tot.loop (fun i s=>s=(i:Int)∧∀ j:Nat,j < i→folL h.next j≠[]∧nx h.next (lastI (folL h.next j)) = -1) h.next.length ⟨rfl,fun j hj=>absurd hj (Nat.not_lt_zero _)⟩ fun i s hI hi=>?_
  obtain ⟨rfl,hI⟩:=hI
  simp only [ltI,zae]
  by_cases hlt:i < h.next.length
  ·rw [if_pos (by omega),zan (by omega) (by omega)]
   simp only [Option.bind_some,zhs h hs,eqI,neI,zae,zdh]
   by_cases he:folL h.next i=[]
   ·rw [if_pos (by simp [he])]
    refine Tot.ret ?_
    simp only [Sum.elim_inr,Sum.elim_inl,Option.some.injEq]
    cases hc:cyc h.next with
    | true=>rfl
    | false=>exact absurd he ((zqv hC).2 hc i hlt).1
   ·have hpos:0 < (folL h.next i).length:=List.length_pos_iff.2 he
    rw [if_neg (by omega),lastI_at he (zmw hs _)]
    simp only [Option.bind_some]
    have hr:=(zip h.next i).rng _ (lastI_mem he)
    have hn:at? h.next (lastI (folL h.next i))=some (nx h.next (lastI (folL h.next i))):=by
     rw [at_in hr,nx,if_neg (by omega)]
    rw [hn]
    simp only [Option.bind_some]
    by_cases hm:nx h.next (lastI (folL h.next i)) = -1
    ·rw [if_pos hm]
     refine Tot.ret ⟨hlt,by simp,fun j hj=>?_⟩
     by_cases hji:j=i
     ·subst hji;exact ⟨he,hm⟩
     ·exact hI j (by omega)
    ·rw [if_neg hm]
     refine Tot.ret ?_
     simp only [Sum.elim_inr,Sum.elim_inl,Option.some.injEq]
     cases hc:cyc h.next with
     | true=>rfl
     | false=>exact absurd ((zqv hC).2 hc i hlt).2 hm
  ·rw [if_neg (by omega)]
   refine Tot.ret ?_
   simp only [Sum.elim_inr,Option.some.injEq]
   rw [(zqv hC).1 fun j hj=>hI j (by omega)]
   rfl
 obtain ⟨r,h1,h2⟩:=key
 rw [h1]
 exact h2
theorem cells_of {h:THeap} (hc:cellsB h=true):Cells h.next:=by
 simp only [cellsB,Bool.and_eq_true,List.all_eq_true] at hc
 intro x hx
 have:=hc.2 x hx
 simp only [inH,decide_eq_true_eq] at this
 omega
theorem ordL_len (next vars:List Int):(ordL next vars).length≤next.length:=(ordSeen next vars [] ⟨by simp,by simp⟩).len
def ownPlaces (xs:List Int):Bool:=(List.range xs.length).all fun i=>decide (xs.getD i 0=(i:Int))
theorem own_loop (xs:List Int) (hl:small xs.length):Tot (iter (ρ:=(Unit) ⊕ (Unit)) (fun s_18:Int =>
                        cond (ltI s_18 (xs.length:Int))
                         ((at? xs s_18).bind fun e_29 =>
                          cond (neI e_29 s_18)
                           (some (.inr (.inl ())))
                           (some (.inl (addI s_18 1))))
                         (some (.inr (.inr ())))) 0) (fun r=>r=if ownPlaces xs then .inr () else .inl ()):=by
 unfold small at hl
 refine Tot.loop (fun i s=>s=(i:Int)∧∀ j:Nat,j < i→xs.getD j 0=(j:Int)) xs.length ⟨rfl,fun j hj=>absurd hj (Nat.not_lt_zero _)⟩ fun i s hI hi=>?_
 obtain ⟨rfl,hI⟩:=hI
 simp only [ltI,neI,zae,zdh,zef]
 by_cases hlt:i < xs.length
 ·have hg:xs.getD i 0=xs[i]:=by simp [List.getD,hlt]
  rw [if_pos (by omega),List.getElem?_eq_getElem hlt,zan (by omega) (by omega)]
  simp only [Option.bind_some]
  by_cases hm:xs[i]=(i:Int)
  ·rw [if_pos hm]
   refine Tot.ret ⟨hlt,by simp,fun j hj=>?_⟩
   by_cases hji:j=i
   ·subst hji;rw [hg];exact hm
   ·exact hI j (by omega)
  ·rw [if_neg hm]
   refine Tot.ret ?_
   have:ownPlaces xs=false:=List.all_eq_false.2 ⟨i,List.mem_range.2 hlt,by simp only [hg,hm];simp⟩
   simp only [Sum.elim_inr,this]
   rfl
 ·rw [if_neg (by omega)]
  refine Tot.ret ?_
  have:ownPlaces xs=true:=List.all_eq_true.2 fun j hj=>by
   have:=hI j (by have:=List.mem_range.1 hj;omega)
   simpa using this
  simp only [Sum.elim_inr,this]
  rfl
def isHeapB (vars:Int) (h:THeap):Bool:=decide (1≤vars∧vars≤4) && decide ((h.vars.length:Int)=vars) && decide ((h.next.length:Int)≤6) && cellsB h && !cyc h.next && (ownPlaces (ordL h.next h.vars) && decide ((ordL h.next h.vars).length=h.next.length))
theorem spec_isHeap (vars:Int) (h:THeap):zft vars h=some (isHeapB vars h):=by
 unfold zft isHeapB
 rw [zcq]
 simp only [Option.bind_some,zae]
 by_cases h1:1≤vars∧vars≤4
 ·rw [if_pos h1]
  simp only [h1,and_self,decide_true,Bool.true_and,neI,zdh,ltI,zae]
  by_cases h2:(h.vars.length:Int)=vars
  ·rw [if_pos h2]
   simp only [h2,decide_true,Bool.true_and]
   by_cases h3:(h.next.length:Int)≤6
   ·rw [if_neg (by omega)]
    have hv:small h.vars.length:=by unfold small;omega
    have hs:small h.next.length:=by unfold small;omega
    simp only [h3,decide_true,Bool.true_and,l7Cells h hv hs,Option.bind_some]
    cases hc:cellsB h with
    | false=>rfl
    | true =>
     simp only [cond_true,Bool.true_and,spec_acyclic h hs (cells_of hc),Option.bind_some]
     cases hy:cyc h.next with
     | true=>rfl
     | false =>
      simp only [Bool.not_false,cond_true,Bool.true_and,l7Order h hv hs,Option.bind_some]
      have hol:=ordL_len h.next h.vars
      obtain ⟨r,hr1,hr2⟩:=own_loop (ordL h.next h.vars) (by unfold small;omega)
      simp only [neI,ltI,zae,zdh] at hr1
      rw [hr1,hr2]
      cases ho:ownPlaces (ordL h.next h.vars) with
      | false=>simp
      | true=>simp [eqI];omega
   ·rw [if_pos (by omega)]
    simp [h3]
  ·rw [if_neg h2]
   simp [h2]
 ·rw [if_neg h1]
  simp [h1]
theorem znu (xs:List Int) (h:small xs.length):zcl xs=some xs:=by
 unfold zcl zkl
 rw [zao h (by omega)]
 rfl
theorem zcy {α:Type} {xs:List α} {i:Nat} (h:i < xs.length):xs.take (i+1)=xs.take i ++ [xs[i]]:=by simp
theorem Tot.flat {α γ σ:Type} (S:List γ→Int→σ) (lo:Int) (xs:List α) (g:α→List γ) {acc:List γ} {step:σ→Option (σ ⊕ List γ)} {s:σ} {Q:List γ→Prop} (hs:s=S acc lo) (hQ:Q (acc ++ xs.flatMap g))
 (h:∀ (i:Nat) x b,xs[i]?=some x→b.length+(g x).length≤acc.length+(xs.flatMap g).length→Tot (step (S b (lo+i))) (· = .inl (S (b ++ g x) (lo+i+1))))
 (he:∀ b,Tot (step (S b (lo+xs.length))) (· = .inr b)):Tot (iter step s) Q:=by
 subst hs
 exact Tot.of (loop_flat S lo xs g (fun i x b hx hb=>(h i x b hx hb).eq) fun b=>(he b).eq) hQ
def t3 (b:Bool):Int:=if b then 2 else 0
theorem l3Of_eq (b:Bool):zfw b=some (t3 b):=by cases b <;> rfl
theorem zle (b:Bool):zdw b=some (t3 b):=by cases b <;> rfl
def nodeOf (h:THeap) (i:Nat):TNode:=⟨h.vars.map fun e=>t3 (decide (e=(i:Int))),h.vars.map fun e=>t3 (decide ((i:Int)∈folL h.next e)),t3 (decide (1 < ((posF (i:Int) 0 h.next).length:Int))),0⟩
def arrowsOf (h:THeap) (i:Nat):List Int:=(List.range h.next.length).map fun j:Nat=>t3 (decide (h.next.getD i 0=(j:Int)))
def strOf (h:THeap):TStructure :=
 if cellsB h then if h.next.length≤10 then if 1≤h.vars.length∧h.vars.length≤4 then ⟨(List.range h.next.length).map (nodeOf h),(List.range h.next.length).flatMap (arrowsOf h)⟩ else ⟨[],[]⟩ else ⟨[],[]⟩ else ⟨[],[]⟩
theorem arrowsOf_len (h:THeap) (i:Nat):(arrowsOf h i).length=h.next.length:=by simp [arrowsOf]
theorem zgx {α β:Type} (xs:List α) (f:α→List β) (n:Nat) (h:∀ x∈xs,(f x).length=n):(xs.flatMap f).length=xs.length * n:=by
 induction xs with
 | nil=>simp
 | cons x xs ih =>
  rw [List.flatMap_cons,List.length_append,h x (List.mem_cons_self ..),ih fun y hy=>h y (List.mem_cons_of_mem _ hy),List.length_cons,Nat.add_mul]
  omega
theorem zhn (h:THeap) (m:Nat):((List.range m).flatMap (arrowsOf h)).length=m * h.next.length:=by
 have:=zgx (List.range m) (arrowsOf h) h.next.length fun x _=>arrowsOf_len h x
 simpa using this
theorem zgl (h:THeap) (hv:small h.vars.length) (hs:small h.next.length):zbq h=some (strOf h):=by
 unfold zbq strOf
 simp only [l7Cells h hv hs,Option.bind_some,zcq]
 cases hc:cellsB h with
 | false=>rfl
 | true =>
  simp only [cond_true,if_true,ltI,zae]
  by_cases h10:h.next.length≤10
  ·rw [if_neg (by omega),if_pos h10]
   by_cases h4:1≤h.vars.length∧h.vars.length≤4
   ·rw [if_pos (by omega),if_pos h4]
    refine Tot.eq (Tot.bind (P:=(· = ((List.range h.next.length).map (nodeOf h),(List.range h.next.length).flatMap (arrowsOf h)))) (Tot.loop (fun i s=>s=((i:Int),(List.range i).map (nodeOf h),(List.range i).flatMap (arrowsOf h))) h.next.length rfl fun i s hI hi=>?_) fun r hr=>by subst hr;exact Tot.ret rfl)
    subst hI
    by_cases hlt:i < h.next.length
    ·simp only [if_pos (show (i:Int) < h.next.length by omega),positions h.next i hs,l3Of_eq,Option.bind_some]
     refine Tot.bind (P:=(· = ((nodeOf h i).vars,(nodeOf h i).reach))) (Tot.loop (fun j s=>s=((j:Int),(h.vars.take j).map (fun e=>t3 (decide (e=(i:Int)))),(h.vars.take j).map (fun e=>t3 (decide ((i:Int)∈folL h.next e))))) h.vars.length (by simp) fun j s hJ hj=>?_) fun r hr=>?_
     ·subst hJ
      by_cases hjl:j < h.vars.length
      ·simp only [if_pos (show (j:Int) < h.vars.length by omega),zef,List.getElem?_eq_getElem hjl,Option.bind_some,zhs h hs,l7Has _ _ (zmw hs _),List.length_map,List.length_take,List.length_singleton,eqI,l3Of_eq]
       rw [zao (by omega) (by omega),Option.bind_some,Option.bind_some,zan (by omega) (by omega)]
       exact Tot.ret ⟨hjl,by rw [zcy hjl];simp only [List.map_append,List.map_cons,List.map_nil,Int.natCast_add,Int.cast_ofNat_Int]⟩
      ·rw [if_neg (by simp only;omega)]
       have:j=h.vars.length:=by omega
       subst this
       exact Tot.ret (by simp [nodeOf])
     ·subst hr
      simp only [List.length_map,List.length_range,List.length_singleton]
      rw [zao (by omega) (by omega),Option.bind_some]
      have hal:=zhn h i
      have hal2:i * h.next.length≤10 * 10:=Nat.mul_le_mul (by omega) h10
      refine Tot.bind (P:=(· = (List.range (i+1)).flatMap (arrowsOf h))) (Tot.loop (fun j s=>s=((j:Int),(List.range i).flatMap (arrowsOf h) ++ (List.range j).map fun k:Nat=>t3 (decide (h.next.getD i 0=(k:Int))))) h.next.length (by simp) fun j s hJ hj=>?_) fun r hr=>?_
      ·subst hJ
       by_cases hjl:j < h.next.length
       ·have hg:h.next.getD i 0=h.next[i]:=by simp [List.getD,hlt]
        simp only [if_pos (show (j:Int) < h.next.length by omega),zef,List.getElem?_eq_getElem hlt,Option.bind_some,List.length_append,List.length_map,List.length_range,hal,List.length_singleton,eqI,l3Of_eq]
        rw [zao (by omega) (by omega),Option.bind_some,zan (by omega) (by omega)]
        exact Tot.ret ⟨hjl,by rw [List.range_succ,List.map_append,List.map_cons,List.map_nil,hg,List.append_assoc];rfl⟩
       ·rw [if_neg (by simp only;omega)]
        have:j=h.next.length:=by omega
        subst this
        exact Tot.ret (by simp [List.range_succ,arrowsOf])
      ·subst hr
       rw [zan (by omega) (by omega)]
       exact Tot.ret ⟨hlt,by simp [List.range_succ,nodeOf]⟩
    ·rw [if_neg (by simp only;omega)]
     have:i=h.next.length:=by omega
     subst this
     exact Tot.ret rfl
   ·rw [if_neg (by omega),if_neg h4]
  ·rw [if_pos (by omega),if_neg h10]
theorem zme (h:THeap) (hv:small h.vars.length) (hs:small h.next.length) (hvs:small (h.vars ++ h.next).length):zdf h=some (strOf h):=by
 unfold zdf strOf
 simp only [areCells h hvs hv hs,Option.bind_some,zeh]
 cases hc:cellsB h with
 | false=>rfl
 | true =>
  simp only [cond_true,if_true,ltI,zae]
  by_cases h10:h.next.length≤10
  ·rw [if_neg (by omega),if_pos h10]
   by_cases h4:1≤h.vars.length∧h.vars.length≤4
   ·rw [if_pos (by omega),if_pos h4]
    refine Tot.eq (Tot.bind (P:=(· = ((List.range h.next.length).map (nodeOf h),(List.range h.next.length).flatMap (arrowsOf h)))) (Tot.loop (fun i s=>s=((i:Int),(List.range i).map (nodeOf h),(List.range i).flatMap (arrowsOf h))) h.next.length rfl fun i s hI hi=>?_) fun r hr=>by subst hr;exact Tot.ret rfl)
    subst hI
    by_cases hlt:i < h.next.length
    ·simp only [if_pos (show (i:Int) < h.next.length by omega),positions_eq,positions h.next i hs,zle,Option.bind_some]
     refine Tot.bind (P:=(· = ((nodeOf h i).vars,(nodeOf h i).reach))) (Tot.loop (fun j s=>s=((j:Int),(h.vars.take j).map (fun e=>t3 (decide (e=(i:Int)))),(h.vars.take j).map (fun e=>t3 (decide ((i:Int)∈folL h.next e))))) h.vars.length (by simp) fun j s hJ hj=>?_) fun r hr=>?_
     ·subst hJ
      by_cases hjl:j < h.vars.length
      ·simp only [if_pos (show (j:Int) < h.vars.length by omega),zef,List.getElem?_eq_getElem hjl,Option.bind_some,zqh h hs,zir _ _ (zmw hs _),List.length_map,List.length_take,List.length_singleton,eqI,zle]
       rw [zao (by omega) (by omega),Option.bind_some,Option.bind_some,zan (by omega) (by omega)]
       exact Tot.ret ⟨hjl,by rw [zcy hjl];simp only [List.map_append,List.map_cons,List.map_nil,Int.natCast_add,Int.cast_ofNat_Int]⟩
      ·rw [if_neg (by simp only;omega)]
       have:j=h.vars.length:=by omega
       subst this
       exact Tot.ret (by simp [nodeOf])
     ·subst hr
      simp only [List.length_map,List.length_range,List.length_singleton]
      rw [zao (by omega) (by omega),Option.bind_some]
      have hal:=zhn h i
      have hal2:i * h.next.length≤10 * 10:=Nat.mul_le_mul (by omega) h10
      refine Tot.bind (P:=(· = (List.range (i+1)).flatMap (arrowsOf h))) (Tot.loop (fun j s=>s=((j:Int),(List.range i).flatMap (arrowsOf h) ++ (List.range j).map fun k:Nat=>t3 (decide (h.next.getD i 0=(k:Int))))) h.next.length (by simp) fun j s hJ hj=>?_) fun r hr=>?_
      ·subst hJ
       by_cases hjl:j < h.next.length
       ·have hg:h.next.getD i 0=h.next[i]:=by simp [List.getD,hlt]
        simp only [if_pos (show (j:Int) < h.next.length by omega),zef,List.getElem?_eq_getElem hlt,Option.bind_some,List.length_append,List.length_map,List.length_range,hal,List.length_singleton,eqI,zle]
        rw [zao (by omega) (by omega),Option.bind_some,zan (by omega) (by omega)]
        exact Tot.ret ⟨hjl,by rw [List.range_succ,List.map_append,List.map_cons,List.map_nil,hg,List.append_assoc];rfl⟩
       ·rw [if_neg (by simp only;omega)]
        have:j=h.next.length:=by omega
        subst this
        exact Tot.ret (by simp [List.range_succ,arrowsOf])
      ·subst hr
       rw [zan (by omega) (by omega)]
       exact Tot.ret ⟨hlt,by simp [List.range_succ,nodeOf]⟩
    ·rw [if_neg (by simp only;omega)]
     have:i=h.next.length:=by omega
     subst this
     exact Tot.ret rfl
   ·rw [if_neg (by omega),if_neg h4]
  ·rw [if_pos (by omega),if_neg h10]
theorem strOf_len (h:THeap):(strOf h).nodes.length≤10:=by
 unfold strOf
 split
 ·split
  ·split
   ·simpa
   ·simp
  ·simp
 ·simp
def firstR {ρ υ:Type} (o:Option ρ) (u:υ):ρ ⊕ υ:=match o with | some r=>.inl r | none=>.inr u
theorem Tot.first {ρ υ:Type} {step:Int→Option (Int ⊕ (ρ ⊕ υ))} {Q:ρ ⊕ υ→Prop} (n:Nat) (F:Nat→Option ρ) (u:υ)
 (h:∀ i:Nat,i < n→Tot (step i) (· = (match F i with | none=>.inl ((i:Int)+1) | some r=>.inr (.inl r)))) (he:Tot (step n) (· = .inr (.inr u)))
 (hQ:Q (firstR ((List.range n).findSome? F) u)):Tot (iter step 0) Q:=by
 refine Tot.loop (fun i s=>s=(i:Int)∧∀ j,j < i→F j=none) n ⟨rfl,fun j hj=>absurd hj (Nat.not_lt_zero _)⟩ fun i s hI hi=>?_
 obtain ⟨rfl,hI⟩:=hI
 by_cases hlt:i < n
 ·refine (h i hlt).mono fun o ho=>?_
  subst ho
  cases hF:F i with
  | none =>
   refine ⟨hlt,rfl,fun j hj=>?_⟩
   by_cases hji:j=i
   ·subst hji;exact hF
   ·exact hI j (by omega)
  | some r =>
   have:(List.range n).findSome? F=some r:=by
    rw [List.findSome?_eq_some_iff]
    refine ⟨List.range i,i,(List.range' (i+1) (n - i - 1)),?_,hF,fun j hj=>hI j (List.mem_range.1 hj)⟩
    rw [List.range_eq_range',List.range_eq_range',← List.range'_succ,show n - i - 1+1=n - i by omega]
    have:=@List.range'_append 0 i (n - i) 1
    simp only [Nat.one_mul,Nat.zero_add] at this
    rw [this]
    congr 1
    omega
   rw [this] at hQ
   exact hQ
 ·have:i=n:=by omega
  subst this
  refine he.mono fun o ho=>?_
  subst ho
  have:(List.range i).findSome? F=none:=by
   rw [List.findSome?_eq_none_iff]
   exact fun j hj=>hI j (List.mem_range.1 hj)
  rw [this] at hQ
  exact hQ
theorem zlw {ρ:Type} (p:Nat→Bool) (r:ρ):∀ xs:List Nat,xs.findSome? (fun i=>if p i then none else some r)=if xs.all p then none else some r
 | []=>rfl
 | x :: xs=>by
  rw [List.findSome?_cons,zlw p r xs]
  cases h:p x <;> simp [h]
theorem Tot.all {ρ υ:Type} {step:Int→Option (Int ⊕ (ρ ⊕ υ))} {Q:ρ ⊕ υ→Prop} (n:Nat) (p:Nat→Bool) (r:ρ) (u:υ)
 (h:∀ i:Nat,i < n→Tot (step i) (· = (if p i then .inl ((i:Int)+1) else .inr (.inl r)))) (he:Tot (step n) (· = .inr (.inr u)))
 (hQ:Q (if (List.range n).all p then .inr u else .inl r)):Tot (iter step 0) Q:=by
 refine Tot.first n (fun i=>if p i then none else some r) u (fun i hi=>?_) he ?_
 ·refine (h i hi).mono fun o ho=>?_
  rw [ho]
  cases p i <;> rfl
 ·rw [zlw]
  cases h:(List.range n).all p <;> simpa [h,firstR] using hQ

def wB (a b:Int):Bool:=decide (0≤a∧a≤2) && (decide (0≤b∧b≤2) && (decide (b=1) || decide (a=b)))
theorem zgo (a b:Int):zcc a b=some (wB a b):=by
 unfold zcc zaz wB
 simp only [zcq,Option.bind_some,zae,eqI]
 by_cases h1:0≤a∧a≤2
 ·rw [if_pos h1]
  by_cases h2:0≤b∧b≤2
  ·rw [if_pos h2]
   by_cases h3:b=1
   ·simp [h1,h3]
   ·simp [h1,h2,h3]
  ·rw [if_neg h2];simp [h2]
 ·rw [if_neg h1];simp [h1]
def listW (a b:List Int):Bool:=decide (a.length=b.length) && (List.range a.length).all fun i=>wB (a.getD i 0) (b.getD i 0)
theorem zin {α:Type} {xs:List α} {i:Nat} (h:i < xs.length) (d:α):at? xs (i:Int)=some (xs.getD i d):=by
 rw [zef,List.getElem?_eq_getElem h];simp [List.getD,h]
theorem zoj (a b:List Int) (ha:small a.length):zds a b=some (listW a b):=by
 unfold small at ha
 unfold zds listW
 simp only [neI,zdh]
 by_cases h:a.length=b.length
 ·rw [if_pos (by omega)]
  simp only [h,decide_true,Bool.true_and]
  refine Tot.eq (Tot.bind (P:=(· = if (List.range a.length).all (fun i=>wB (a.getD i 0) (b.getD i 0)) then .inr () else .inl ())) (Tot.all a.length (fun i=>wB (a.getD i 0) (b.getD i 0)) () () (fun i hi=>?_) ?_ (by simp)) fun r hr=>?_)
  ·rw [← h]
   simp only [ltI,zae,zin hi 0,zin (show i < b.length by omega) 0,Option.bind_some,zgo]
   rw [if_pos (by omega),zan (by omega) (by omega)]
   cases wB (a.getD i 0) (b.getD i 0) <;> exact Tot.ret rfl
  ·rw [← h]
   simp only [ltI,zae]
   rw [if_neg (by omega)]
   exact Tot.ret rfl
  ·subst hr
   rw [h]
   cases (List.range b.length).all (fun i=>wB (a.getD i 0) (b.getD i 0)) <;> exact Tot.ret rfl
 ·rw [if_neg (by omega)]
  simp [h]
def zN:TNode:=⟨[],[],0,0⟩
def nodeW (x y:TNode):Bool:=listW x.vars y.vars && (listW x.reach y.reach && (wB x.shared y.shared && wB x.many y.many))
def okN (x:TNode):Prop:=small x.vars.length∧small x.reach.length
theorem spec_node (x y:TNode) (hx:okN x):zfc x y=some (nodeW x y):=by
 unfold zfc nodeW
 rw [zoj _ _ hx.1,zoj _ _ hx.2,zgo,zgo]
 cases listW x.vars y.vars <;> cases listW x.reach y.reach <;> cases wB x.shared y.shared <;> rfl
def nextV (s:TStructure) (i j:Int):Int :=
 if 0≤i∧i≤(s.nodes.length:Int) - 1 then if 0≤j∧j≤(s.nodes.length:Int) - 1 then if s.next.length=s.nodes.length * s.nodes.length then s.next.getD (i * s.nodes.length+j).toNat 0 else 1 else 1 else 1
theorem zpn {n:Nat} (h:small n):n * n≤16000000000000:=Nat.le_trans (Nat.mul_le_mul h h) (by decide)
theorem place_in {n:Nat} {i j:Int} (hi:0≤i∧i≤(n:Int) - 1) (hj:0≤j∧j≤(n:Int) - 1):0≤i * n∧i * n+j < ((n * n:Nat):Int):=by
 have h1:i * n≤((n:Int) - 1) * n:=Int.mul_le_mul_of_nonneg_right hi.2 (by omega)
 have h2:0≤i * (n:Int):=Int.mul_nonneg hi.1 (by omega)
 rw [Int.sub_mul,Int.one_mul] at h1
 have h3:((n * n:Nat):Int)=(n:Int) * n:=by simp
 omega
theorem zhr (s:TStructure) (i j:Int) (hs:small s.nodes.length):zcn s i j=some (nextV s i j):=by
 unfold zcn nextV
 have hq:=zpn hs
 have hs':=hs
 unfold small at hs'
 rw [zcq,zcq,zay (by omega) (by omega)]
 have h3:((s.nodes.length * s.nodes.length:Nat):Int)=(s.nodes.length:Int) * s.nodes.length:=by simp
 rw [zgm (by omega) (by omega)]
 simp only [Option.bind_some,zae,neI,zdh]
 by_cases hi:0≤i∧i≤(s.nodes.length:Int) - 1
 ·rw [if_pos hi,if_pos hi]
  by_cases hj:0≤j∧j≤(s.nodes.length:Int) - 1
  ·rw [if_pos hj,if_pos hj]
   by_cases hn:s.next.length=s.nodes.length * s.nodes.length
   ·obtain ⟨p1,p2⟩:=place_in hi hj
    rw [if_pos (by omega),if_pos hn,zgm (by omega) (by omega),zan (by omega) (by omega),at_in (by omega)]
    rfl
   ·rw [if_neg (by omega),if_neg hn]
  ·rw [if_neg hj,if_neg hj]
 ·rw [if_neg hi,if_neg hi]
theorem impl_nextOf (s:TStructure) (i j:Int) (hs:small s.nodes.length):zfg s i j=some (nextV s i j):=by
 rw [← zhr s i j hs]
 unfold zfg zcn zam
 simp only [zeh,zcq,Option.bind_some]
def roundB (s t:TStructure) (to:List Int) (j:Nat):Bool :=
 wB (nextV s ((to.length:Int) - 1) j) (nextV t (lastI to) (to.getD j 0)) && (wB (nextV s j ((to.length:Int) - 1)) (nextV t (to.getD j 0) (lastI to)) && !(decide (j+1 < to.length) && (decide (to.getD j 0=lastI to) && !decide ((t.nodes.getD (lastI to).toNat zN).many=1))))
def fitB (s t:TStructure) (to:List Int):Bool:=nodeW (s.nodes.getD (to.length - 1) zN) (t.nodes.getD (lastI to).toNat zN) && (List.range to.length).all (roundB s t to)
def okS (s:TStructure):Prop:=small s.nodes.length∧∀ n∈s.nodes,okN n
theorem at_in' {α:Type} {xs:List α} {c:Int} (h:0≤c∧c < (xs.length:Int)) (d:α):at? xs c=some (xs.getD c.toNat d):=by
 unfold at?
 rw [if_pos h.1]
 have:c.toNat < xs.length:=by omega
 simp [List.getD,List.getElem?_eq_getElem this]
theorem okS_at {s:TStructure} (h:okS s) (i:Nat):okN (s.nodes.getD i zN):=by
 by_cases hi:i < s.nodes.length
 ·have:=h.2 _ (List.getElem_mem hi)
  simpa [List.getD,List.getElem?_eq_getElem hi] using this
 ·have:s.nodes.getD i zN=zN:=by simp [List.getD,List.getElem?_eq_none (Nat.le_of_not_lt hi)]
  rw [this]
  unfold okN small zN
  simp
theorem spec_fits (s t:TStructure) (to:List Int) (hs:okS s) (ht:small t.nodes.length) (h0:to≠[]) (hl:to.length≤s.nodes.length) (hr:∀ x∈to,0≤x∧x < (t.nodes.length:Int)):zdt s t to=some (fitB s t to):=by
 unfold zdt fitB
 have hpos:0 < to.length:=List.length_pos_iff.2 h0
 have hs1:=hs.1
 have hsl:small to.length:=Nat.le_trans hl hs1
 have hsl':=hsl
 unfold small at hsl' ht hs1
 have hx:=hr _ (lastI_mem h0)
 rw [lastI_at h0 hsl,zay (by omega) (by omega)]
 simp only [Option.bind_some,at_in' hx zN]
 have h1:at? s.nodes ((to.length:Int) - 1)=some (s.nodes.getD (to.length - 1) zN):=by
  rw [at_in' (by omega) zN,show ((to.length:Int) - 1).toNat=to.length - 1 by omega]
 simp only [h1,Option.bind_some,spec_node _ _ (okS_at hs _)]
 cases hn:nodeW (s.nodes.getD (to.length - 1) zN) (t.nodes.getD (lastI to).toNat zN) with
 | false=>rfl
 | true =>
  simp only [cond_true,Bool.true_and]
  refine Tot.eq (Tot.bind (P:=(· = if (List.range to.length).all (roundB s t to) then .inr () else .inl ())) (Tot.all to.length (roundB s t to) () () (fun i hi=>?_) ?_ rfl) fun r hr=>?_)
  ·simp only [leI,ltI,eqI,neI,zae,zdh,zin hi 0,Option.bind_some,zgo,zhr s _ _ hs.1,zhr t _ _ ht]
   rw [if_pos (by omega),zan (by omega) (by omega)]
   unfold roundB
   cases wB (nextV s ((to.length:Int) - 1) i) (nextV t (lastI to) (to.getD i 0)) with
   | false=>exact Tot.ret rfl
   | true =>
    cases wB (nextV s i ((to.length:Int) - 1)) (nextV t (to.getD i 0) (lastI to)) with
    | false=>exact Tot.ret rfl
    | true =>
     simp only [cond_true,Bool.true_and]
     by_cases h2:i+1 < to.length
     ·rw [if_pos (by omega)]
      by_cases h3:to.getD i 0=lastI to
      ·rw [if_pos h3]
       by_cases h4:(t.nodes.getD (lastI to).toNat zN).many=1
       ·rw [if_pos h4];exact Tot.ret (by rw [decide_eq_true h2,decide_eq_true h3,decide_eq_true h4];rfl)
       ·rw [if_neg h4];exact Tot.ret (by rw [decide_eq_true h2,decide_eq_true h3,decide_eq_false h4];rfl)
      ·rw [if_neg h3];exact Tot.ret (by rw [decide_eq_true h2,decide_eq_false h3];rfl)
     ·rw [if_neg (by omega)];exact Tot.ret (by rw [decide_eq_false h2];rfl)
  ·simp only [leI,zae]
   rw [if_neg (by omega)]
   exact Tot.ret rfl
  ·subst hr
   cases (List.range to.length).all (roundB s t to) <;> exact Tot.ret rfl
def ontoB (t:TStructure) (to:List Int):Bool:=(List.range t.nodes.length).all fun j:Nat=>decide ((j:Int)∈to)
def rngT (t:TStructure) (to:List Int):Prop:=∀ x∈to,0≤x∧x < (t.nodes.length:Int)
theorem slc_take (to:List Int) (i:Nat) (hi:i < to.length) (hl:small to.length):slc to 0 (addI (i:Int) 1)=some (to.take (i+1)):=by
 unfold small at hl
 rw [zan (by omega) (by omega)]
 unfold slc
 rw [if_pos (by omega)]
 congr 1
theorem ne_take {to:List Int} {i:Nat} (hi:i < to.length):to.take (i+1)≠[]:=by
 intro h
 have:(to.take (i+1)).length=0:=by rw [h];rfl
 rw [List.length_take] at this
 omega
def upB (s t:TStructure) (to:List Int) (i:Nat):Bool:=decide (0≤to.getD i 0∧to.getD i 0≤(t.nodes.length:Int) - 1) && fitB s t (to.take (i+1))
def embB (s t:TStructure) (to:List Int):Bool:=decide (to.length=s.nodes.length) && ((List.range to.length).all (upB s t to) && ontoB t to)
theorem zmc (s t:TStructure) (to:List Int) (hs:okS s) (ht:small t.nodes.length) (hto:small to.length):zdd s t to=some (embB s t to):=by
 unfold zdd embB
 have hs1:=hs.1
 have ht':=ht
 have hto':=hto
 unfold small at hs1 ht' hto'
 simp only [neI,zdh]
 by_cases hl:to.length=s.nodes.length
 ·rw [if_pos (by omega),decide_eq_true hl,Bool.true_and]
  have key:Tot (iter (ρ:=(Unit) ⊕ (Unit)) (fun s_2:Int =>
   cond (ltI s_2 (to.length:Int))
    ((at? to s_2).bind fun e_15 =>
     (zbh e_15 0 (subI (t.nodes.length:Int) 1)).bind fun y_20 =>
      cond y_20
       ((slc to 0 (addI s_2 1)).bind fun z_24 =>
        (zdt s t z_24).bind fun y_31 =>
         cond y_31
          (some (.inl (addI s_2 1)))
          (some (.inr (.inl ()))))
       (some (.inr (.inl ()))))
    (some (.inr (.inr ())))) 0) (fun r=>(r=.inr ()∧(List.range to.length).all (upB s t to)=true)∨(r=.inl ()∧(List.range to.length).all (upB s t to)=false)):=by
   refine Tot.loop (fun i q=>q=(i:Int)∧∀ j,j < i→upB s t to j=true) to.length ⟨rfl,fun j hj=>absurd hj (Nat.not_lt_zero _)⟩ fun i q hI hi=>?_
   obtain ⟨rfl,hI⟩:=hI
   simp only [ltI,zae]
   by_cases hlt:i < to.length
   ·rw [if_pos (by omega)]
    simp only [zin hlt 0,Option.bind_some,zcq,zay (a:=(t.nodes.length:Int)) (b:=1) (by omega) (by omega),zae]
    have hno:upB s t to i=false→(List.range to.length).all (upB s t to)=false:=fun hu=>List.all_eq_false.2 ⟨i,List.mem_range.2 hlt,by simp [hu]⟩
    by_cases hr:0≤to.getD i 0∧to.getD i 0≤(t.nodes.length:Int) - 1
    ·rw [if_pos hr,slc_take to i hlt hto,Option.bind_some]
     have hall:∀ x∈to.take (i+1),0≤x∧x < (t.nodes.length:Int):=by
      intro x hx
      obtain ⟨j,hj,rfl⟩:=List.mem_iff_getElem.1 hx
      simp only [List.length_take] at hj
      rw [List.getElem_take]
      by_cases hji:j=i
      ·subst hji
       have:to.getD j 0=to[j]:=by simp [List.getD,hlt]
       omega
      ·have hu:=hI j (by omega)
       have:to.getD j 0=to[j]'(by omega):=by simp [List.getD,show j < to.length by omega]
       simp only [upB,Bool.and_eq_true,decide_eq_true_eq] at hu
       omega
     rw [spec_fits s t _ hs ht (ne_take hlt) (by simp;omega) hall,Option.bind_some,zan (by omega) (by omega)]
     have hu:upB s t to i=fitB s t (to.take (i+1)):=by unfold upB;rw [decide_eq_true hr,Bool.true_and]
     cases hf:fitB s t (to.take (i+1)) with
     | true =>
      refine Tot.ret ⟨hlt,by simp,fun j hj=>?_⟩
      by_cases hji:j=i
      ·subst hji;rw [hu,hf]
      ·exact hI j (by omega)
     | false=>exact Tot.ret (.inr ⟨rfl,hno (hu.trans hf)⟩)
    ·rw [if_neg hr]
     refine Tot.ret (.inr ⟨rfl,hno ?_⟩)
     unfold upB
     rw [decide_eq_false hr,Bool.false_and]
   ·rw [if_neg (by omega)]
    refine Tot.ret (.inl ⟨rfl,List.all_eq_true.2 fun j hj=>hI j (by have:=List.mem_range.1 hj;omega)⟩)
  obtain ⟨r,hr,h⟩:=key
  rw [hr,Option.bind_some]
  rcases h with ⟨rfl,h⟩|⟨rfl,h⟩
  ·rw [h,Bool.true_and]
   simp only [Sum.elim_inr]
   refine Tot.eq (Tot.bind (P:=(· = if ontoB t to then .inr () else .inl false)) (Tot.all t.nodes.length (fun j:Nat=>decide ((j:Int)∈to)) false () (fun i hi=>?_) ?_ rfl) fun r hr=>?_)
   ·simp only [ltI,zae,l7Has to _ hto,Option.bind_some]
    rw [if_pos (by omega),zan (by omega) (by omega)]
    by_cases h:(i:Int)∈to
    ·rw [if_pos h,if_pos (by simpa using h)];exact Tot.ret rfl
    ·rw [if_neg h,if_neg (by simpa using h)];exact Tot.ret rfl
   ·simp only [ltI,zae]
    rw [if_neg (by omega)]
    exact Tot.ret rfl
   ·subst hr
    cases ontoB t to <;> exact Tot.ret rfl
  ·rw [h];rfl
 ·rw [if_neg (by omega),decide_eq_false hl]
  rfl

def pre (s t:TStructure) (to:List Int):Prop:=to.length≤s.nodes.length∧rngT t to∧∀ i,i < to.length→fitB s t (to.take (i+1))=true
theorem pre_emb {s t:TStructure} {to:List Int} (h:pre s t to) (hl:to.length=s.nodes.length):embB s t to=ontoB t to:=by
 unfold embB
 rw [decide_eq_true hl,Bool.true_and]
 have:(List.range to.length).all (upB s t to)=true:=List.all_eq_true.2 fun i hi=>by
  have hi:=List.mem_range.1 hi
  unfold upB
  have hg:to.getD i 0=to[i]:=by simp [List.getD,hi]
  have:=h.2.1 _ (List.getElem_mem hi)
  rw [h.2.2 i hi,decide_eq_true (by omega),Bool.true_and]
 rw [this,Bool.true_and]
theorem pre_push {s t:TStructure} {to:List Int} (h:pre s t to) {j:Nat} (hj:j < t.nodes.length) (hl:to.length < s.nodes.length) (hf:fitB s t (to ++ [(j:Int)])=true):pre s t (to ++ [(j:Int)]):=by
 refine ⟨by simp;omega,fun x hx=>?_,fun i hi=>?_⟩
 ·rcases List.mem_append.1 hx with hx | hx
  ·exact h.2.1 x hx
  ·simp at hx;omega
 ·simp only [List.length_append,List.length_singleton] at hi
  by_cases he:i=to.length
  ·subst he
   rw [List.take_of_length_le (by simp)]
   exact hf
  ·rw [List.take_append_of_le_length (by omega)]
   exact h.2.2 i (by omega)
def tryJ (s t:TStructure) (F:List Int→List Int × Bool) (to:List Int) (j:Nat):Option (List Int × Bool) :=
 if fitB s t (to ++ [(j:Int)]) then (if (F (to ++ [(j:Int)])).2 then some ((F (to ++ [(j:Int)])).1,true) else none) else none
def findF (s t:TStructure):Nat→List Int→List Int × Bool
 | 0,to=>(to,ontoB t to)
 | k+1,to=>(match (List.range t.nodes.length).findSome? (tryJ s t (findF s t k) to) with | some r=>r | none=>([],false))
theorem findF_len (s t:TStructure):∀ (k:Nat) (to:List Int),(findF s t k to).1.length≤to.length+k
 | 0,to=>Nat.le_refl _
 | k+1,to=>by
  unfold findF
  split
  ·rename_i r hr
   obtain ⟨j,_,hj⟩:=List.exists_of_findSome?_eq_some hr
   unfold tryJ at hj
   split at hj
   ·split at hj
    ·cases hj
     have:=findF_len s t k (to ++ [(j:Int)])
     simp only [List.length_append,List.length_singleton] at this
     simp only
     omega
    ·cases hj
   ·cases hj
  ·simp
theorem spec_find (s t:TStructure) (hs:okS s) (ht:small t.nodes.length):∀ (k:Nat) (to:List Int),to.length+k=s.nodes.length→pre s t to→fixN zbp (k+1) (s,t,to,())=some (findF s t k to)
 | 0,to,hk,hp=>by
  rw [show fixN zbp (0+1) (s,t,to,())=zdm (fun a b c=>fixN zbp 0 (a,b,c,())) s t to from rfl]
  have hs1:=hs.1
  unfold zdm
  simp only [eqI,zae]
  rw [if_pos (by omega),zmc s t to hs ht (by unfold small at *; omega),Option.bind_some,pre_emb hp (by omega)]
  rfl
 | k+1,to,hk,hp=>by
  rw [show fixN zbp (k+1+1) (s,t,to,())=zdm (fun a b c=>fixN zbp (k+1) (a,b,c,())) s t to from rfl]
  have hs1:=hs.1
  have ht':=ht
  unfold small at hs1 ht'
  unfold zdm
  simp only [eqI,zae]
  rw [if_neg (by omega)]
  refine Tot.eq (Tot.bind (P:=(· = firstR ((List.range t.nodes.length).findSome? (tryJ s t (findF s t k) to)) ())) (Tot.first t.nodes.length (tryJ s t (findF s t k) to) () (fun i hi=>?_) ?_ rfl) fun r hr=>?_)
  ·simp only [ltI,zae,List.length_nil,Nat.zero_add,List.length_singleton]
   rw [if_pos (by omega),zao (by omega) (by omega),Option.bind_some,zao (by omega) (by omega),Option.bind_some,zan (by omega) (by omega),
    spec_fits s t _ hs ht (by simp) (by simp;omega) (fun x hx=>by
     rcases List.mem_append.1 hx with hx | hx
     ·exact hp.2.1 x hx
     ·simp at hx;omega),Option.bind_some]
   unfold tryJ
   cases hf:fitB s t (to ++ [(i:Int)]) with
   | false=>exact Tot.ret rfl
   | true =>
    rw [cond_true,spec_find s t hs ht k _ (by simp;omega) (pre_push hp hi (by omega) hf),Option.bind_some]
    cases hb:(findF s t k (to ++ [(i:Int)])).2 <;> exact Tot.ret (by simp [hb])
  ·simp only [ltI,zae]
   rw [if_neg (by omega)]
   exact Tot.ret rfl
  ·subst hr
   unfold findF
   cases (List.range t.nodes.length).findSome? (tryJ s t (findF s t k) to) <;> exact Tot.ret rfl
theorem pre_nil (s t:TStructure):pre s t []:=⟨Nat.zero_le _,by simp [rngT],by simp⟩
def findE' (s t:TStructure):List Int × Bool:=let r:=findF s t s.nodes.length [];if r.2 then (r.1,true) else ([],false)
theorem spec_findE (s t:TStructure) (hs:okS s) (ht:small t.nodes.length):zcd s t=some (findE' s t):=by
 have h:zlu s t []=some (findF s t s.nodes.length []):=fixO_of zjy (spec_find s t hs ht s.nodes.length [] (by simp) (pre_nil s t))
 have hl:=findF_len s t s.nodes.length []
 have hs1:=hs.1
 unfold small at hs1
 simp only [List.length_nil,Nat.zero_add] at hl
 unfold zcd findE'
 rw [h,Option.bind_some]
 cases hb:(findF s t s.nodes.length []).2 with
 | false=>simp [hb]
 | true=>simp only [cond_true,List.length_nil,Nat.zero_add];rw [zao (by omega) (by omega)];simp [hb]
def isEmb (s t:TStructure):Bool:=(findE' s t).2
theorem zii (s t:TStructure) (hs:okS s) (ht:small t.nodes.length):zcw s t=some (isEmb s t):=by
 unfold zcw
 rw [spec_findE s t hs ht]
 rfl
theorem strOf_ok (h:THeap):okS (strOf h):=by
 have h1:=strOf_len h
 refine ⟨by unfold small;omega,?_⟩
 unfold strOf
 split
 ·split
  ·split
   ·intro n hn
    simp only [List.mem_map,List.mem_range] at hn
    obtain ⟨i,hi,rfl⟩:=hn
    unfold okN small nodeOf
    simp only [List.length_map]
    omega
   ·simp
  ·simp
 ·simp
open Wf (wf)
open Sm (sm lg)
open Wf (wf)
open Sm (sm lg)
open Wf (wf)
open Sm (sm lg)
open Wf (wf)
open Sm (sm lg)
def truthsB (xs:List Int):Bool:=xs.all fun x=>decide (0≤x∧x≤2)
theorem all_range {α:Type} (xs:List α) (p:α→Bool) (d:α):(List.range xs.length).all (fun i=>p (xs.getD i d))=xs.all p:=by
 have h:(List.range xs.length).map (fun i=>xs.getD i d)=xs:=by
  apply List.ext_getElem
  ·simp
  ·intro i h1 h2
   simp [List.getD,h2]
 have h2:((List.range xs.length).map (fun i=>xs.getD i d)).all p=(List.range xs.length).all (fun i=>p (xs.getD i d)):=by rw [List.all_map];rfl
 rw [h] at h2
 exact h2.symm
theorem zjo (xs:List Int) (h:small xs.length):zcs xs=some (truthsB xs):=by
 unfold small at h
 unfold zcs
 refine Tot.eq (Tot.bind (P:=(· = if truthsB xs then .inr () else .inl ())) (Tot.all xs.length (fun i=>decide (0≤xs.getD i 0∧xs.getD i 0≤2)) () () (fun i hi=>?_) ?_ ?_) fun r hr=>?_)
 ·simp only [ltI,zae,zin hi 0,Option.bind_some,zaz,zcq]
  rw [if_pos (by omega),zan (by omega) (by omega)]
  by_cases hc:0≤xs.getD i 0∧xs.getD i 0≤2
  ·rw [if_pos hc,if_pos (by simpa using hc)];exact Tot.ret rfl
  ·rw [if_neg hc,if_neg (by simpa using hc)];exact Tot.ret rfl
 ·simp only [ltI,zae]
  rw [if_neg (by omega)]
  exact Tot.ret rfl
 ·rw [all_range xs (fun x=>decide (0≤x∧x≤2)) 0]
  rfl
 ·subst hr
  cases truthsB xs <;> exact Tot.ret rfl
theorem zjv (xs:List Int) (h:small xs.length):zcv xs=some (truthsB xs):=by
 unfold zcv
 rw [zig xs (fun x0=>zdq x0) (fun x=>!decide (0≤x∧x≤2)) (fun x _=>by unfold zdq zcm;rw [zeh];rfl) h]
 simp only [Option.bind_some,Option.some.injEq,notB,truthsB]
 rw [List.not_any_eq_all_not]
 congr 1
 funext x
 simp
def nodeOkB (vars:Int) (x:TNode):Bool:=decide ((x.vars.length:Int)=vars) && (decide ((x.reach.length:Int)=vars) && (truthsB x.vars && (truthsB x.reach && (decide (0≤x.shared∧x.shared≤2) && decide (0≤x.many∧x.many≤1)))))
def isStrB (vars:Int) (s:TStructure):Bool:=decide (1≤vars∧vars≤4) && (decide (s.nodes.length≤10) && (decide (s.next.length=s.nodes.length * s.nodes.length) && (truthsB s.next && s.nodes.all (nodeOkB vars))))
structure shortS (s:TStructure):Prop where
 n:small s.nodes.length
 x:small s.next.length
 e:∀ y∈s.nodes,okN y
theorem shortS.ok {s:TStructure} (h:shortS s):okS s:=⟨h.n,h.e⟩
theorem zhv {s:TStructure} (h:sm s):shortS s:=⟨by have:=h.1.1;unfold small;omega,by have:=h.2.1;unfold small;omega,fun y hy=>⟨by have:=(h.1.2 y hy).1.1;unfold small;omega,by have:=(h.1.2 y hy).2.1;unfold small;omega⟩⟩
theorem zie (vars:Int) (s:TStructure) (h:shortS s):zck vars s=some (isStrB vars s):=by
 have hn:=h.n
 have hq:=zpn hn
 unfold small at hn
 unfold zck
 refine Tot.eq (Tot.bind (P:=(· = if s.nodes.all (nodeOkB vars) then .inr () else .inl ())) (Tot.all s.nodes.length (fun i=>nodeOkB vars (s.nodes.getD i zN)) () () (fun i hi=>?_) ?_ ?_) fun r hr=>?_)
 ·have hm:s.nodes.getD i zN∈s.nodes:=by simp [List.getD,hi]
  have ho:=h.e _ hm
  simp only [ltI,zae,zin hi zN,Option.bind_some]
  rw [if_pos (by omega),zan (by omega) (by omega)]
  generalize s.nodes.getD i zN=y at *
  simp only [neI,zdh,zjo _ ho.1,zjo _ ho.2,zaz,zcq,Option.bind_some,zae]
  unfold nodeOkB
  by_cases h1:(y.vars.length:Int)=vars
  ·rw [if_pos h1,decide_eq_true h1]
   by_cases h2:(y.reach.length:Int)=vars
   ·rw [if_pos h2,decide_eq_true h2]
    cases truthsB y.vars <;> cases truthsB y.reach <;> try exact Tot.ret rfl
    simp only [cond_true,Bool.true_and]
    by_cases h3:0≤y.shared∧y.shared≤2
    ·rw [if_pos h3,decide_eq_true h3]
     by_cases h4:0≤y.many∧y.many≤1
     ·rw [if_pos h4,decide_eq_true h4];exact Tot.ret rfl
     ·rw [if_neg h4,decide_eq_false h4];exact Tot.ret rfl
    ·rw [if_neg h3,decide_eq_false h3];exact Tot.ret rfl
   ·rw [if_neg h2,decide_eq_false h2];exact Tot.ret rfl
  ·rw [if_neg h1,decide_eq_false h1];exact Tot.ret rfl
 ·simp only [ltI,zae]
  rw [if_neg (by omega)]
  exact Tot.ret rfl
 ·rw [all_range s.nodes (nodeOkB vars) zN]
 ·subst hr
  have h3:((s.nodes.length * s.nodes.length:Nat):Int)=(s.nodes.length:Int) * s.nodes.length:=by simp
  unfold isStrB
  cases hall:s.nodes.all (nodeOkB vars) with
  | false=>simp only [Bool.and_false];exact Tot.ret rfl
  | true =>
   simp only [if_true,Sum.elim_inr,zcq,Option.bind_some,zae,leI,eqI,zjo _ h.x,Bool.and_true]
   rw [zgm (by omega) (by omega)]
   by_cases h1:1≤vars∧vars≤4
   ·rw [if_pos h1,decide_eq_true h1,Bool.true_and]
    by_cases h2:s.nodes.length≤10
    ·rw [if_pos (by omega),decide_eq_true h2,Bool.true_and]
     by_cases h4:s.next.length=s.nodes.length * s.nodes.length
     ·rw [if_pos (by omega),decide_eq_true h4,Bool.true_and];exact Tot.ret rfl
     ·rw [if_neg (by omega),decide_eq_false h4];exact Tot.ret rfl
    ·rw [if_neg (by omega),decide_eq_false h2];exact Tot.ret rfl
   ·rw [if_neg h1,decide_eq_false h1];exact Tot.ret rfl
theorem zlp (xs:List TNode) (f:TNode→Option Bool) (p:TNode→Bool) (hf:∀ x∈xs,f x=some (p x)) (hl:small xs.length):zbw xs f=some (xs.any p):=by
 unfold zbw zdv
 rw [indexF xs f p hf hl,← zlz]
 cases xs.findIdx? p <;> rfl
theorem zmf (vars:Int) (s:TStructure) (h:shortS s):zdg vars s=some (isStrB vars s):=by
 have hn:=h.n
 have hq:=zpn hn
 unfold small at hn
 have h3:((s.nodes.length * s.nodes.length:Nat):Int)=(s.nodes.length:Int) * s.nodes.length:=by simp
 have hc:=zlp s.nodes (fun x0=>zda x0 vars) (fun y=>!nodeOkB vars y) (fun y hy=>by
  have ho:=h.e y hy
  unfold zda nodeOkB
  simp only [neI,zdh,zjv _ ho.1,zjv _ ho.2,zcm,zeh,Option.bind_some,zae]
  by_cases h1:(y.vars.length:Int)=vars
  ·rw [if_pos h1,decide_eq_true h1]
   by_cases h2:(y.reach.length:Int)=vars
   ·rw [if_pos h2,decide_eq_true h2]
    cases truthsB y.vars <;> cases truthsB y.reach <;> try rfl
    simp only [cond_true,Bool.true_and]
    by_cases h3:0≤y.shared∧y.shared≤2
    ·rw [if_pos h3,decide_eq_true h3]
     by_cases h4:y.many=0
     ·rw [if_pos h4];simp [h4]
     ·rw [if_neg h4]
      by_cases h5:y.many=1
      ·simp [h5]
      ·have:¬ (0≤y.many∧y.many≤1):=by omega
       simp [h5,this]
    ·rw [if_neg h3,decide_eq_false h3];rfl
   ·rw [if_neg h2,decide_eq_false h2];rfl
  ·rw [if_neg h1,decide_eq_false h1];rfl) h.n
 unfold zdg isStrB
 simp only [zeh,Option.bind_some,zae,ltI,neI,zdh,zjv _ h.x]
 rw [zgm (by omega) (by omega)]
 by_cases h1:1≤vars∧vars≤4
 ·rw [if_pos h1,decide_eq_true h1,Bool.true_and]
  by_cases h2:s.nodes.length≤10
  ·rw [if_neg (by omega),decide_eq_true h2,Bool.true_and]
   by_cases h4:s.next.length=s.nodes.length * s.nodes.length
   ·rw [if_pos (by omega),decide_eq_true h4,Bool.true_and]
    cases truthsB s.next with
    | false=>rfl
    | true =>
     rw [cond_true,hc]
     simp only [Option.bind_some,notB,Bool.true_and,Option.some.injEq]
     rw [List.not_any_eq_all_not]
     congr 1
     funext y
     simp
   ·rw [if_neg (by omega),decide_eq_false h4];rfl
  ·rw [if_pos (by omega),decide_eq_false h2];rfl
 ·rw [if_neg h1,decide_eq_false h1];rfl
theorem copyNode (y:TNode) (h:okN y):zcj y=some y:=by
 have h1:=h.1
 have h2:=h.2
 unfold small at h1 h2
 unfold zcj
 simp only [List.length_nil,Nat.zero_add]
 rw [zao (by omega) (by omega),Option.bind_some,zao (by omega) (by omega)]
 rfl
theorem ownNode (y:TNode) (h:okN y):zdi y=some y:=by
 unfold zdi
 rw [znu _ h.1,Option.bind_some,znu _ h.2]
 rfl
theorem spec_copy (s:TStructure) (h:shortS s):zfd s=some s:=by
 have hn:=h.n
 have hx:=h.x
 unfold small at hn hx
 unfold zfd
 simp only [List.length_nil,Nat.zero_add]
 rw [zao (by omega) (by omega),Option.bind_some]
 refine Tot.eq (Tot.bind (P:=(· = s.nodes)) (Tot.loop (fun i q=>q=((i:Int),s.nodes.take i)) s.nodes.length (by simp) fun i q hI hi=>?_) fun r hr=>by subst hr;exact Tot.ret rfl)
 subst hI
 by_cases hlt:i < s.nodes.length
 ·simp only [ltI,zae,zef,List.getElem?_eq_getElem hlt,Option.bind_some,copyNode _ (h.e _ (List.getElem_mem hlt)),List.length_take,List.length_singleton]
  rw [if_pos (by omega),zao (by omega) (by omega),Option.bind_some,zan (by omega) (by omega)]
  exact Tot.ret ⟨hlt,by rw [zcy hlt];rfl⟩
 ·simp only [ltI,zae]
  rw [if_neg (by omega)]
  exact Tot.ret (List.take_of_length_le (by omega))
theorem impl_owns (s:TStructure) (h:shortS s):zcg s=some s:=by
 have hn:=h.n
 unfold small at hn
 unfold zcg
 rw [znu _ h.x,Option.bind_some]
 refine Tot.eq (Tot.bind (P:=(· = s.nodes)) (Tot.loop (fun i q=>q=((i:Int),s.nodes.take i)) s.nodes.length (by simp) fun i q hI hi=>?_) fun r hr=>by subst hr;exact Tot.ret rfl)
 subst hI
 by_cases hlt:i < s.nodes.length
 ·simp only [ltI,zae,zef,List.getElem?_eq_getElem hlt,Option.bind_some,ownNode _ (h.e _ (List.getElem_mem hlt)),List.length_take,List.length_singleton]
  rw [if_pos (by omega),zao (by omega) (by omega),Option.bind_some,zan (by omega) (by omega)]
  exact Tot.ret ⟨hlt,by rw [zcy hlt];rfl⟩
 ·simp only [ltI,zae]
  rw [if_neg (by omega)]
  exact Tot.ret (List.take_of_length_le (by omega))
open Wf (wf)
open Sm (sm lg)
def frm (n:Nat) (t:Int) (i:Nat):Int:=if i=n then t else (i:Int)
open Wf (wf)
open Sm (sm lg)
structure Foc (s:TStructure) (b:Int) (ts:List Int):Prop where
 sh:shortS s
 n10:s.nodes.length≤10
 sq:s.next.length=s.nodes.length * s.nodes.length
 b:0≤b∧b < (s.nodes.length:Int)
 t:∀ t∈ts,0≤t∧t < (s.nodes.length:Int)
 l:ts.length≤10
def varsF (s:TStructure):Int:=match s.nodes with | []=>0 | x :: _=>(x.vars.length:Int)
theorem zhg (s:TStructure):zdj s=some (varsF s):=by
 unfold zdj varsF
 cases h:s.nodes with
 | nil=>rfl
 | cons x xs =>
  simp only [eqI,zae]
  rw [if_neg (by simp only [List.length_cons];omega),show (0:Int)=((0:Nat):Int) from rfl,zef]
  rfl
theorem zgh:zdl=zdj:=rfl
open Wf (wf)
open Sm (sm lg)
def hd3 (h:THeap):Bool × List Int × List Int:=(true,h.vars,h.next)
def okH (h:THeap):Prop:=h.vars.length≤100∧h.next.length≤100
theorem okH.v {h:THeap} (o:okH h):small h.vars.length:=by have:=o.1;unfold small;omega
theorem okH.n {h:THeap} (o:okH h):small h.next.length:=by have:=o.2;unfold small;omega
theorem okH.vn {h:THeap} (o:okH h):small (h.vars ++ h.next).length:=by have:=o.1;have:=o.2;unfold small;simp;omega
def ixI (xs:List Int) (v:Int):Int:=match xs.findIdx? (fun x=>decide (v=x)) with | some j=>(j:Int) | none=>-1
theorem posF_head (v:Int):∀ (xs:List Int) (i:Nat),(posF v i xs).head?=(xs.findIdx? (fun x=>decide (v=x))).map fun j=>((i+j:Nat):Int)
 | [],i=>rfl
 | x :: xs,i=>by
  rw [posF,List.findIdx?_cons]
  by_cases h:v=x
  ·subst h
   simp
  ·have h':¬ x=v:=fun e=>h e.symm
   simp only [h,h',if_false,decide_false,Bool.false_eq_true]
   rw [posF_head v xs (i+1)]
   cases xs.findIdx? (fun x=>decide (v=x)) with
   | none=>rfl
   | some j=>simp;omega
theorem spec_new (xs:List Int) (v:Int) (hl:small xs.length):zev xs v=some (ixI xs v):=by
 unfold zev ixI
 rw [positions xs v hl,Option.bind_some]
 have:=posF_head v xs 0
 cases hp:posF v 0 xs with
 | nil =>
  rw [hp] at this
  cases hf:xs.findIdx? (fun x=>decide (v=x)) with
  | none=>simp [eqI]
  | some j=>rw [hf] at this;cases this
 | cons p r =>
  rw [hp] at this
  cases hf:xs.findIdx? (fun x=>decide (v=x)) with
  | none=>rw [hf] at this;cases this
  | some j =>
   rw [hf] at this
   simp at this
   subst this
   have:¬ ((r.length:Int)+1=0):=by omega
   simp [eqI,this,at?]
def canF (h:THeap):THeap:=if cellsB h=true then ⟨h.vars.map (ixI (ordL h.next h.vars)),(ordL h.next h.vars).map fun c=>ixI (ordL h.next h.vars) (h.next.getD c.toNat 0)⟩ else ⟨[],[]⟩
theorem map_flat {α γ:Type} (xs:List α) (f:α→γ):xs.flatMap (fun x=>[f x])=xs.map f:=by
 induction xs with
 | nil=>rfl
 | cons x xs ih=>simp [ih]
theorem zpu (h:THeap):Seen h.next (ordL h.next h.vars):=ordSeen h.next h.vars [] ⟨by simp,by simp⟩
theorem zpe (xs:List Int) (F:Int→Option Int) (f:Int→Int) (hF:∀ x∈xs,F x=some (f x)) (hl:xs.length≤1000) :
 iter (ρ:=(List Int)) (fun s_8:Int × (List Int) =>
         cond (ltI s_8.1 (xs.length:Int))
          ((at? xs s_8.1).bind fun e_28 =>
           (F e_28).bind fun y_33 =>
            (room (s_8.2.length + [y_33].length) 8).bind fun _ =>
             some (.inl (addI s_8.1 1,s_8.2 ++ [y_33])))
          (some (.inr s_8.2))) (0,[])=some (xs.map f):=by
 refine Tot.eq (Tot.flat (fun b i=>(i,b)) 0 xs (fun x=>[f x]) (acc:=[]) rfl (by simp [map_flat]) (fun i x b hx hb=>?_) fun b=>?_)
 ·have hi:=(List.getElem?_eq_some_iff.1 hx).1
  rw [map_flat] at hb
  simp only [List.length_nil,List.length_map,List.length_singleton] at hb
  simp only [Int.zero_add,zee,zef,hx,Option.bind_some,hF x (List.mem_of_getElem? hx),List.length_singleton]
  rw [if_pos (by omega),zao (by omega) (by omega),zan (by omega) (by omega)]
  exact Tot.ret rfl
 ·simp only [Int.zero_add,zee]
  rw [if_neg (by omega)]
  exact Tot.ret rfl
theorem ord_at (h:THeap):∀ c∈ordL h.next h.vars,at? h.next c=some (h.next.getD c.toNat 0):=fun c hc=>at_in ((zpu h).rng c hc)
theorem spec_canon (h:THeap) (o:okH h):zec h=some (canF h):=by
 unfold zec canF
 have hl:=(zpu h).len
 have o2:=o.2
 have o1:=o.1
 have hs:small (ordL h.next h.vars).length:=by unfold small;omega
 simp only [l7Cells h o.v o.n,Option.bind_some,l7Order h o.v o.n]
 cases cellsB h
 ·rfl
 ·simp only [cond_true,if_true]
  rw [zpe h.vars (fun c=>zev (ordL h.next h.vars) c) (ixI (ordL h.next h.vars)) (fun x _=>spec_new _ x hs) (by omega)]
  simp only [Option.bind_some]
  have:=zpe (ordL h.next h.vars) (fun c=>(at? h.next c).bind fun e=>zev (ordL h.next h.vars) e) (fun c=>ixI (ordL h.next h.vars) (h.next.getD c.toNat 0)) (fun x hx=>by
   simp only [ord_at h x hx,Option.bind_some]
   exact spec_new _ _ hs) (by omega)
  simp only [Option.bind_assoc] at this
  rw [this]
  rfl
theorem canF_len (h:THeap):(canF h).vars.length≤h.vars.length∧(canF h).next.length≤h.next.length:=by
 have hl:=(zpu h).len
 unfold canF
 split
 ·simp;exact hl
 ·simp

open Wf (wf)
open Sm (sm lg)

structure okB (s:TStructure):Prop where
 sh:shortS s
 v:1≤varsF s∧varsF s≤4
 n:s.nodes.length≤10
 z:1≤s.nodes.length
 e:∀ x∈s.nodes,(x.vars.length:Int)=varsF s∧(x.reach.length:Int)=varsF s
theorem okB_of {s:TStructure} (h:shortS s) (hs:isStrB (varsF s) s=true) (h0:¬ s.nodes.length=0):okB s:=by
 unfold isStrB at hs
 simp only [Bool.and_eq_true,decide_eq_true_eq,List.all_eq_true] at hs
 refine ⟨h,hs.1,hs.2.1,by omega,fun x hx=>?_⟩
 have:=hs.2.2.2.2 x hx
 unfold nodeOkB at this
 simp only [Bool.and_eq_true,decide_eq_true_eq] at this
 exact ⟨this.1,this.2.1⟩
theorem zfr {s:TStructure} {i:Int} (h:0≤i∧i < (s.nodes.length:Int)):s.nodes.getD i.toNat zN∈s.nodes:=by
 have:i.toNat < s.nodes.length:=by omega
 simp [List.getD,this]

def predV (s:TStructure) (k i:Int):Int :=
 if k≤varsF s - 1 then (s.nodes.getD i.toNat zN).vars.getD k.toNat 0 else if k≤2 * varsF s - 1 then (s.nodes.getD i.toNat zN).reach.getD (k - varsF s).toNat 0 else (s.nodes.getD i.toNat zN).shared
theorem l13At_in {l:List Int} {k:Int} (hl:small l.length) (h:0≤k∧k < (l.length:Int)):zex l k=some (l.getD k.toNat 0):=by
 unfold small at hl
 unfold zex
 rw [zcq,zay (by omega) (by omega)]
 simp only [Option.bind_some,zae]
 rw [if_pos (by omega),at_in' h 0]
 rfl
theorem spec_pred {s:TStructure} (hs:okB s) {k i:Int} (hi:0≤i∧i < (s.nodes.length:Int)) (hk:0≤k∧k≤2 * varsF s):zbr s k i=some (predV s k i):=by
 have hv:=hs.v
 have hn:=hs.n
 obtain ⟨e1,e2⟩:=hs.e _ (zfr hi)
 obtain ⟨o1,o2⟩:=hs.sh.e _ (zfr hi)
 unfold zbr predV
 rw [zhg,Option.bind_some,zcq,zcq,zcq,zay (by omega) (by omega),zay (by omega) (by omega),zgm (by omega) (by omega),zay (by omega) (by omega)]
 simp only [Option.bind_some,zae]
 rw [if_pos (by omega)]
 by_cases h1:k≤varsF s - 1
 ·rw [if_pos (by omega),if_pos h1,at_in' hi zN,Option.bind_some,l13At_in o1 (by omega)]
  rfl
 ·rw [if_neg (by omega),if_neg h1]
  by_cases h2:k≤2 * varsF s - 1
  ·rw [if_pos (by omega),if_pos h2,at_in' hi zN,Option.bind_some,zay (by omega) (by omega),l13At_in o2 (by omega)]
   rfl
  ·rw [if_neg (by omega),if_neg h2]
   simp only [eqI,zae]
   rw [if_pos (by omega),at_in' hi zN]
   rfl
theorem impl_pred {s:TStructure} (hs:okB s) {k i:Int} (hi:0≤i∧i < (s.nodes.length:Int)) (hk:0≤k∧k≤2 * varsF s):zbt s k i=some (predV s k i):=by
 have hv:=hs.v
 have hn:=hs.n
 obtain ⟨e1,e2⟩:=hs.e _ (zfr hi)
 unfold zbt predV zam
 rw [zgh,zhg,Option.bind_some,zeh,zay (by omega) (by omega),zgm (by omega) (by omega)]
 simp only [Option.bind_some,zae,eqI,at_in' hi zN,zeh]
 rw [if_pos (by omega)]
 by_cases h3:k=2 * varsF s
 ·rw [if_pos h3,if_neg (by omega),if_neg (by omega)]
 ·rw [if_neg h3,zay (by omega) (by omega),zay (by omega) (by omega),zay (by omega) (by omega)]
  by_cases h1:k≤varsF s - 1
  ·rw [if_pos (by omega),if_pos h1,if_pos (by omega),at_in' (by omega) 0]
   rfl
  ·rw [if_neg (by omega),if_neg h1,if_pos (by omega),zay (by omega) (by omega),zay (by omega) (by omega),if_pos (by omega),at_in' (by omega) 0,if_pos (by omega)]
   rfl

def txtF (a:Int):ByteArray:=if 0≤a∧a≤2 then (⟨#[48,63,49]⟩:ByteArray).extract a.toNat (a+1).toNat else ⟨#[]⟩
theorem zpo (a:Int):zdk a=some (txtF a):=by
 unfold zdk txtF zaz
 rw [zcq]
 simp only [Option.bind_some,zae]
 by_cases h:0≤a∧a≤2
 ·rw [if_pos h,if_pos h,zan (by omega) (by omega)]
  unfold sub?
  rw [if_pos ⟨h.1,by omega,by show a+1≤3;omega⟩]
  rfl
 ·rw [if_neg h,if_neg h]
theorem impl_txt (a:Int):zed a=some (txtF a):=by
 rw [← zpo]
 unfold zed zdk
 rw [zow]
theorem ziu (a:Int):(txtF a).size≤1:=by
 unfold txtF
 split
 ·rw [ByteArray.size_extract]
  have:(⟨#[48,63,49]⟩:ByteArray).size=3:=rfl
  omega
 ·exact Nat.zero_le _
def nameK (s:TStructure) (i:Int):Nat→ByteArray
 | 0=>⟨#[]⟩
 | k+1=>nameK s i k ++ txtF (predV s k i)
theorem zja (s:TStructure) (i:Int):∀ k,(nameK s i k).size≤k
 | 0=>Nat.le_refl _
 | k+1=>by
  rw [nameK,ByteArray.size_append]
  have:=zja s i k
  have:=ziu (predV s k i)
  omega
def nameF (s:TStructure) (i:Int):ByteArray:=nameK s i (2 * varsF s+1).toNat
theorem spec_name {s:TStructure} (hs:okB s) {i:Int} (hi:0≤i∧i < (s.nodes.length:Int)):zct s i=some (nameF s i):=by
 have hv:=hs.v
 have hn:=hs.n
 have hz:=hs.z
 have hcp:zav s=some (2 * varsF s+1):=by
  unfold zav
  simp only [eqI,zae]
  rw [if_neg (by omega),zhg,Option.bind_some,zgm (by omega) (by omega),zan (by omega) (by omega)]
 unfold zct
 rw [zcq,zay (by omega) (by omega)]
 simp only [Option.bind_some,zae,hcp]
 rw [if_pos (by omega)]
 refine Tot.eq (Tot.bind (P:=(· = nameF s i)) (Tot.loop (fun k q=>q=(nameK s i k,(k:Int))) (2 * varsF s+1).toNat rfl fun k q hI hk=>?_) fun r hr=>by subst hr;exact Tot.ret rfl)
 subst hI
 by_cases hlt:(k:Int) < 2 * varsF s+1
 ·simp only [ltI,zae]
  rw [if_pos hlt,spec_pred hs hi (by omega),Option.bind_some,zpo,Option.bind_some]
  have h1:=zja s i k
  have h2:=ziu (predV s k i)
  unfold catS
  rw [if_pos (by omega),Option.bind_some,zan (by omega) (by omega)]
  exact Tot.ret ⟨by omega,rfl⟩
 ·simp only [ltI,zae]
  rw [if_neg hlt]
  have:k=(2 * varsF s+1).toNat:=by omega
  subst this
  exact Tot.ret rfl
theorem impl_name {s:TStructure} (hs:okB s) {i:Int} (hi:0≤i∧i < (s.nodes.length:Int)):zau s i=some (nameF s i):=by
 have hv:=hs.v
 have hn:=hs.n
 have hz:=hs.z
 have hcp:zaw s=some (2 * varsF s+1):=by
  unfold zaw
  simp only [eqI,zae]
  rw [if_neg (by omega),zgh,zhg,Option.bind_some,zgm (by omega) (by omega),zan (by omega) (by omega)]
 unfold zau zam
 rw [zeh,zay (by omega) (by omega)]
 simp only [Option.bind_some,zae,hcp]
 rw [if_pos (by omega)]
 refine Tot.eq (Tot.bind (P:=(· = nameF s i)) (Tot.loop (fun k q=>q=(nameK s i k,(k:Int))) (2 * varsF s+1).toNat rfl fun k q hI hk=>?_) fun r hr=>by subst hr;exact Tot.ret rfl)
 subst hI
 by_cases hlt:(k:Int) < 2 * varsF s+1
 ·simp only [ltI,zae]
  rw [if_pos hlt,impl_pred hs hi (by omega),Option.bind_some,impl_txt,Option.bind_some]
  have h1:=zja s i k
  have h2:=ziu (predV s k i)
  unfold catS
  rw [if_pos (by omega),Option.bind_some,zan (by omega) (by omega)]
  exact Tot.ret ⟨by omega,rfl⟩
 ·simp only [ltI,zae]
  rw [if_neg hlt]
  have:k=(2 * varsF s+1).toNat:=by omega
  subst this
  exact Tot.ret rfl
theorem name_size {s:TStructure} (hs:okB s) (i:Int):(nameF s i).size≤9:=by
 have:=zja s i (2 * varsF s+1).toNat
 have:=hs.v
 unfold nameF
 omega
def namesL (s:TStructure) (k:Nat):List ByteArray:=(List.range k).map fun i:Nat=>nameF s (i:Int)
theorem zqe {s:TStructure} {nm:TStructure→Int→Option ByteArray} (h:∀ i:Nat,i < s.nodes.length→nm s (i:Int)=some (nameF s (i:Int))):∀ k,k≤s.nodes.length→namesT (nm s) k=some (namesL s k)
 | 0,_=>rfl
 | k+1,hk=>by
  rw [namesT,zqe h k (by omega),Option.bind_some,h k (by omega),Option.bind_some]
  unfold namesL
  rw [List.range_succ,List.map_append]
  rfl
theorem names_few {s:TStructure} (hs:okB s):few (namesL s s.nodes.length)=true:=by
 unfold few
 rw [Bool.and_eq_true,List.all_eq_true]
 have hn:=hs.n
 refine ⟨by simp [namesL];omega,fun x hx=>?_⟩
 unfold namesL at hx
 obtain ⟨i,_,rfl⟩:=List.mem_map.1 hx
 have:=name_size hs (i:Int)
 simp
 omega
open Wf (wf)
open Sm (sm lg)

def joinV (a b:Int):Int:=if a=b then (if 0≤a∧a≤2 then a else 1) else 1
theorem spec_join (a b:Int):zfe a b=some (joinV a b):=by
 unfold zfe joinV zaz
 rw [zcq]
 simp only [Option.bind_some,zae,neI,zdh]
 by_cases h:a=b
 ·rw [if_pos h,if_pos h]
  by_cases h1:0≤a∧a≤2
  ·rw [if_pos h1,if_pos h1]
  ·rw [if_neg h1,if_neg h1]
 ·rw [if_neg h,if_neg h]
theorem impl_join (a b:Int):zfu a b=some (joinV a b):=by
 rw [← spec_join]
 unfold zfu zfe
 rw [zow]
def rowG (s:TStructure) (i:Int) (b:List Int) (acc:Int):Int:=b.foldl (fun acc j=>joinV acc (nextV s i j)) acc
def nextG (s:TStructure) (a b:List Int):Int:=a.foldl (fun acc i=>rowG s i b acc) (nextV s (a.getD 0 0) (b.getD 0 0))
theorem zjg {α:Type} {xs:List α} (h:xs≠[]) (d:α):at? xs 0=some (xs.getD 0 d):=by
 have:=List.length_pos_iff.2 h
 exact at_in' (by omega) d
theorem spec_next (s:TStructure) {a b:List Int} (hs:small s.nodes.length) (ha:small a.length) (hb:small b.length) (a0:a≠[]) (b0:b≠[]):zen s a b=some (nextG s a b):=by
 unfold small at ha hb
 unfold zen
 rw [zjg a0 0,zjg b0 0]
 simp only [Option.bind_some,zhr s _ _ hs]
 refine Tot.eq (Tot.bind (P:=(· = nextG s a b)) (Tot.loop (fun i q=>q=((a.take i).foldl (fun acc i=>rowG s i b acc) (nextV s (a.getD 0 0) (b.getD 0 0)),(i:Int))) a.length rfl fun i q hI hi=>?_) fun r hr=>by subst hr;exact Tot.ret rfl)
 subst hI
 by_cases hlt:i < a.length
 ·simp only [ltI,zae]
  rw [if_pos (by omega)]
  generalize hq:(a.take i).foldl (fun acc i=>rowG s i b acc) (nextV s (a.getD 0 0) (b.getD 0 0))=acc
  refine Tot.bind (P:=(· = rowG s a[i] b acc)) (Tot.loop (fun j q=>q=(rowG s a[i] (b.take j) acc,(j:Int))) b.length rfl fun j q hJ hj=>?_) fun r hr=>?_
  ·subst hJ
   by_cases hjl:j < b.length
   ·simp only [zef,List.getElem?_eq_getElem hlt,List.getElem?_eq_getElem hjl,Option.bind_some,spec_join]
    rw [if_pos (by omega),zan (by omega) (by omega)]
    exact Tot.ret ⟨hjl,by rw [zcy hjl];unfold rowG;rw [List.foldl_append];rfl⟩
   ·simp only
    rw [if_neg (by omega)]
    have:j=b.length:=by omega
    subst this
    exact Tot.ret (by show _=_;rw [List.take_length])
  ·subst hr
   rw [zan (by omega) (by omega)]
   exact Tot.ret ⟨hlt,by rw [zcy hlt,List.foldl_append,hq];rfl⟩
 ·simp only [ltI,zae]
  rw [if_neg (by omega)]
  have:i=a.length:=by omega
  subst this
  exact Tot.ret (by show _=_;rw [List.take_length];rfl)
theorem impl_next (s:TStructure) {a b:List Int} (hs:small s.nodes.length) (ha:small a.length) (hb:small b.length) (a0:a≠[]) (b0:b≠[]):zdx s a b=some (nextG s a b):=by
 unfold small at ha hb
 unfold zdx
 rw [zjg a0 0,zjg b0 0]
 simp only [Option.bind_some,impl_nextOf s _ _ hs]
 refine Tot.eq (Tot.bind (P:=(· = nextG s a b)) (Tot.loop (fun i q=>q=((a.take i).foldl (fun acc i=>rowG s i b acc) (nextV s (a.getD 0 0) (b.getD 0 0)),(i:Int))) a.length rfl fun i q hI hi=>?_) fun r hr=>by subst hr;exact Tot.ret rfl)
 subst hI
 by_cases hlt:i < a.length
 ·simp only [ltI,zae,zef,List.getElem?_eq_getElem hlt,Option.bind_some]
  rw [if_pos (by omega)]
  generalize hq:(a.take i).foldl (fun acc i=>rowG s i b acc) (nextV s (a.getD 0 0) (b.getD 0 0))=acc
  refine Tot.bind (P:=(· = rowG s a[i] b acc)) (Tot.loop (fun j q=>q=(rowG s a[i] (b.take j) acc,(j:Int))) b.length rfl fun j q hJ hj=>?_) fun r hr=>?_
  ·subst hJ
   by_cases hjl:j < b.length
   ·simp only [zef,List.getElem?_eq_getElem hjl,Option.bind_some,impl_join]
    rw [if_pos (by omega),zan (by omega) (by omega)]
    exact Tot.ret ⟨hjl,by rw [zcy hjl];unfold rowG;rw [List.foldl_append];rfl⟩
   ·simp only
    rw [if_neg (by omega)]
    have:j=b.length:=by omega
    subst this
    exact Tot.ret (by show _=_;rw [List.take_length])
  ·subst hr
   rw [zan (by omega) (by omega)]
   exact Tot.ret ⟨hlt,by rw [zcy hlt,List.foldl_append,hq];rfl⟩
 ·simp only [ltI,zae]
  rw [if_neg (by omega)]
  have:i=a.length:=by omega
  subst this
  exact Tot.ret (by show _=_;rw [List.take_length];rfl)

def manyG (s:TStructure) (g:List Int):Int:=if 1 < g.length then 1 else if (s.nodes.getD (g.getD 0 0).toNat zN).many≠0 then 1 else (s.nodes.getD (g.getD 0 0).toNat zN).many
def nodeG (s:TStructure) (g:List Int):TNode:={ s.nodes.getD (g.getD 0 0).toNat zN with many:=manyG s g }
def inG (s:TStructure) (g:List Int):Prop:=∀ z∈g,0≤z∧z < (s.nodes.length:Int)
theorem zet {α:Type} {xs:List α} {i:Nat} (h:i < xs.length) (d:α):xs.getD i d∈xs:=by simp [List.getD,h]
theorem spec_nodeB {s:TStructure} (hs:shortS s) {g:List Int} (hg:small g.length) (g0:g≠[]) (hin:inG s g):zem s g=some (nodeG s g):=by
 unfold small at hg
 have hp:=List.length_pos_iff.2 g0
 have h0:=hin _ (zet hp 0)
 unfold zem
 rw [zjg g0 0,Option.bind_some,at_in' h0 zN,Option.bind_some,copyNode _ (hs.e _ (zfr h0)),Option.bind_some]
 refine Tot.eq (Tot.bind (P:=(· = manyG s g)) (Tot.loop (fun i q=>q=((i:Int),if i=0 then (s.nodes.getD (g.getD 0 0).toNat zN).many else manyG s g)) g.length rfl fun i q hI hi=>?_) fun r hr=>by subst hr;exact Tot.ret rfl)
 subst hI
 by_cases hlt:i < g.length
 ·have hz:=hin _ (zet hlt 0)
  simp only [ltI,zae,zin hlt 0,Option.bind_some,at_in' hz zN,neI,zdh]
  rw [if_pos (by omega),zan (by omega) (by omega)]
  by_cases h1:1 < g.length
  ·rw [if_pos (by omega)]
   exact Tot.ret ⟨hlt,by rw [if_neg (by omega)];unfold manyG;rw [if_pos h1];rfl⟩
  ·rw [if_neg (by omega)]
   have:i=0:=by omega
   subst this
   by_cases h2:(s.nodes.getD (g.getD 0 0).toNat zN).many=0
   ·rw [if_pos h2]
    exact Tot.ret ⟨hlt,by rw [if_pos rfl,if_neg (by omega)];unfold manyG;rw [if_neg h1,if_neg (fun h=>h h2)];rfl⟩
   ·rw [if_neg h2]
    exact Tot.ret ⟨hlt,by rw [if_neg (by omega)];unfold manyG;rw [if_neg h1,if_pos h2];rfl⟩
 ·simp only [ltI,zae]
  rw [if_neg (by omega)]
  exact Tot.ret (by show _=_;rw [if_neg (by omega)])
theorem impl_many {s:TStructure} {g:List Int} (hg:small g.length) (g0:g≠[]) (hin:inG s g):Tot (iter (ρ:=Int) (fun s_42:Int × Int =>
                 cond (ltI s_42.1 (g.length:Int))
                  ((at? g s_42.1).bind fun e_50 =>
                   cond (ltI 0 s_42.1)
                    (some (.inl (addI s_42.1 1,1)))
                    ((at? s.nodes e_50).bind fun e_56 =>
                     cond (neI e_56.many 0)
                      (some (.inl (addI s_42.1 1,1)))
                      (some (.inl (addI s_42.1 1,s_42.2)))))
                  (some (.inr s_42.2))) (0,(s.nodes.getD (g.getD 0 0).toNat zN).many)) (· = manyG s g):=by
 unfold small at hg
 have hp:=List.length_pos_iff.2 g0
 refine Tot.loop (fun i q=>q=((i:Int),if i=0 then (s.nodes.getD (g.getD 0 0).toNat zN).many else if i=1 then (if (s.nodes.getD (g.getD 0 0).toNat zN).many≠0 then 1 else (s.nodes.getD (g.getD 0 0).toNat zN).many) else 1)) g.length rfl fun i q hI hi=>?_
 subst hI
 by_cases hlt:i < g.length
 ·have hz:=hin _ (zet hlt 0)
  simp only [ltI,zae,zin hlt 0,Option.bind_some,at_in' hz zN,neI,zdh]
  rw [if_pos (by omega),zan (by omega) (by omega)]
  by_cases h1:0 < i
  ·rw [if_pos (by omega)]
   exact Tot.ret ⟨hlt,by rw [if_neg (by omega),if_neg (by omega)];rfl⟩
  ·rw [if_neg (by omega)]
   have:i=0:=by omega
   subst this
   by_cases h2:(s.nodes.getD (g.getD 0 0).toNat zN).many=0
   ·rw [if_pos h2]
    exact Tot.ret ⟨hlt,by rw [if_pos rfl,if_neg (by omega),if_pos rfl,if_neg (fun h=>h h2)];rfl⟩
   ·rw [if_neg h2]
    exact Tot.ret ⟨hlt,by rw [if_neg (by omega),if_pos rfl,if_pos h2];rfl⟩
 ·simp only [ltI,zae]
  rw [if_neg (by omega)]
  have:i=g.length:=by omega
  subst this
  refine Tot.ret ?_
  unfold manyG
  by_cases h1:1 < g.length
  ·show _=_
   rw [if_neg (by omega),if_neg (by omega),if_pos h1]
  ·show _=_
   rw [if_neg (by omega),if_pos (by omega),if_neg h1]
open Wf (wf)
open Sm (sm lg)

def gsF (s:TStructure):List (List Int):=grpO (namesL s s.nodes.length)
def blurG (s:TStructure) (gs:List (List Int)):TStructure:=⟨gs.map (nodeG s),gs.flatMap fun a=>gs.map (nextG s a)⟩
def blurF (s:TStructure):TStructure:=if s.nodes.length=0 then ⟨[],[]⟩ else if isStrB (varsF s) s=true then blurG s (gsF s) else s
structure Grp (s:TStructure) (gs:List (List Int)):Prop where
 l:gs.length≤10
 e:∀ g∈gs,g≠[]∧g.length≤10∧inG s g
theorem ziz (s:TStructure) (k:Nat):(namesL s k).length=k:=by simp [namesL]
theorem zjk {s:TStructure} (h:okB s):Grp s (gsF s):=by
 have hn:=h.n
 have hl:=ziz s s.nodes.length
 refine ⟨?_,fun g hg=>?_⟩
 ·unfold gsF grpO
  rw [List.length_map,(zfv _).length_eq]
  have:=zib (namesL s s.nodes.length)
  omega
 ·unfold gsF grpO at hg
  obtain ⟨k,hk,rfl⟩:=List.mem_map.1 hg
  have hm:=(zhk _ _).1 hk
  refine ⟨fun h0=>posN_nil.1 h0 hm,?_,fun z hz=>?_⟩
  ·have:=zjs k (namesL s s.nodes.length) 0
   omega
  ·have:=zlk hz
   omega
theorem zpq {s:TStructure} (hs:shortS s) {gs:List (List Int)} (hG:Grp s gs):Tot ((iter (ρ:=(List TNode) × (List Int)) (fun s_12:Int × (List TNode) × (List Int) =>
        cond (ltI s_12.1 (gs.length:Int))
         ((at? gs s_12.1).bind fun e_20 =>
          (zem s e_20).bind fun y_25 =>
           (room (s_12.2.1.length + [y_25].length) 64).bind fun _ =>
            (iter (ρ:=(List Int)) (fun s_30:Int × (List Int) =>
             cond (ltI s_30.1 (gs.length:Int))
              ((at? gs s_12.1).bind fun _ =>
               (at? gs s_30.1).bind fun e_43 =>
                (zen s e_20 e_43).bind fun y_48 =>
                 (room (s_30.2.length + [y_48].length) 8).bind fun _ =>
                  some (.inl (addI s_30.1 1,s_30.2 ++ [y_48])))
              (some (.inr s_30.2))) (0,s_12.2.2)).bind fun r_53 =>
             some (.inl (addI s_12.1 1,s_12.2.1 ++ [y_25],r_53)))
         (some (.inr (s_12.2.1,s_12.2.2)))) (0,[],[])).bind fun r_58 =>
       some (⟨r_58.1,r_58.2⟩:TStructure)) (· = blurG s gs):=by
 have hl:=hG.l
 have hrow:∀ m,((gs.take m).flatMap fun a=>gs.map (nextG s a)).length=(gs.take m).length * gs.length:=fun m=>zgx _ _ _ (fun x _=>by simp)
 refine Tot.bind (P:=(· = (gs.map (nodeG s),gs.flatMap fun a=>gs.map (nextG s a)))) (Tot.loop (fun i q=>q=((i:Int),(gs.take i).map (nodeG s),(gs.take i).flatMap fun a=>gs.map (nextG s a))) gs.length rfl fun i q hI hi=>?_) fun r hr=>by subst hr;exact Tot.ret rfl
 subst hI
 by_cases hlt:i < gs.length
 ·obtain ⟨g0,g1,g2⟩:=hG.e _ (List.getElem_mem hlt)
  have hi10:i * gs.length≤10 * 10:=Nat.mul_le_mul (by omega) (by omega)
  have hrl:((gs.take i).flatMap fun a=>gs.map (nextG s a)).length=i * gs.length:=by rw [hrow,List.length_take,Nat.min_eq_left (by omega)]
  simp only [ltI,zae,zef,List.getElem?_eq_getElem hlt,Option.bind_some,spec_nodeB hs (show small gs[i].length by unfold small;omega) g0 g2,List.length_map,List.length_take,List.length_singleton]
  rw [if_pos (by omega),zao (by omega) (by omega),Option.bind_some]
  refine Tot.bind (P:=(· = (gs.take (i+1)).flatMap fun a=>gs.map (nextG s a))) (Tot.loop (fun j q=>q=((j:Int),((gs.take i).flatMap fun a=>gs.map (nextG s a)) ++ (gs.take j).map (nextG s gs[i]))) gs.length (by simp) fun j q hJ hj=>?_) fun r hr=>?_
  ·subst hJ
   by_cases hjl:j < gs.length
   ·obtain ⟨b0,b1,b2⟩:=hG.e _ (List.getElem_mem hjl)
    simp only [zef,List.getElem?_eq_getElem hjl,Option.bind_some,spec_next s hs.n (show small gs[i].length by unfold small;omega) (show small gs[j].length by unfold small;omega) g0 b0,List.length_append,hrl,List.length_map,List.length_take,List.length_singleton]
    rw [if_pos (by omega),zao (by omega) (by omega),Option.bind_some,zan (by omega) (by omega)]
    exact Tot.ret ⟨hjl,by rw [zcy hjl,List.map_append,List.append_assoc];rfl⟩
   ·simp only
    rw [if_neg (by omega)]
    have:j=gs.length:=by omega
    subst this
    exact Tot.ret (by show _=_;rw [List.take_length,zcy hlt,List.flatMap_append];simp)
  ·subst hr
   rw [zan (by omega) (by omega)]
   exact Tot.ret ⟨hlt,by rw [zcy hlt,List.map_append];rfl⟩
 ·simp only [ltI,zae]
  rw [if_neg (by omega)]
  have:i=gs.length:=by omega
  subst this
  exact Tot.ret (by show _=_;rw [List.take_length])
theorem zkf {s:TStructure} (hs:shortS s):zfn s=some (blurF s):=by
 have hn:=hs.n
 unfold small at hn
 unfold zfn blurF
 simp only [eqI,zae,zhg,Option.bind_some,zie _ s hs]
 by_cases h0:s.nodes.length=0
 ·rw [if_pos (by omega),if_pos h0]
 ·rw [if_neg (by omega),if_neg h0]
  cases hc:isStrB (varsF s) s with
  | false =>
   rw [cond_false,spec_copy s hs,if_neg (by simp)]
   rfl
  | true =>
   have hb:=okB_of hs hc h0
   have hg:zfm s=some (gsF s):=by
    unfold zfm groupsT
    rw [zqe (fun i hi=>spec_name hb (by omega)) _ (Nat.le_refl _),Option.bind_some,if_pos (names_few hb)]
    rfl
   rw [cond_true,if_pos rfl,hg,Option.bind_some]
   exact (zpq hs (zjk hb)).eq
theorem zqi {s:TStructure} (hs:shortS s) {ls:List ByteArray} {es:List (ByteArray × List Int)} {F:ByteArray→List Int} (hE:∀ k∈ls,lookT k es=some (F k)) (hG:Grp s (ls.map F)):Tot ((iter (ρ:=(List TNode) × (List Int)) (fun s_11:Int × (List TNode) × (List Int) =>
        cond (ltI s_11.1 (ls.length:Int))
         ((at? ls s_11.1).bind fun e_19 =>
          (lookT e_19 es).bind fun y_24 =>
           (at? y_24 0).bind fun e_27 =>
            (at? s.nodes e_27).bind fun e_32 =>
             (zdi e_32).bind fun y_37 =>
              (lookT e_19 es).bind fun _ =>
               (iter (ρ:=Int) (fun s_42:Int × Int =>
                cond (ltI s_42.1 (y_24.length:Int))
                 ((at? y_24 s_42.1).bind fun e_50 =>
                  cond (ltI 0 s_42.1)
                   (some (.inl (addI s_42.1 1,1)))
                   ((at? s.nodes e_50).bind fun e_56 =>
                    cond (neI e_56.many 0)
                     (some (.inl (addI s_42.1 1,1)))
                     (some (.inl (addI s_42.1 1,s_42.2)))))
                 (some (.inr s_42.2))) (0,y_37.many)).bind fun r_62 =>
                (room (s_11.2.1.length + [(⟨y_37.vars,y_37.reach,y_37.shared,r_62⟩:TNode)].length) 64).bind fun _ =>
                 (iter (ρ:=(List Int)) (fun s_69:Int × (List Int) =>
                  cond (ltI s_69.1 (ls.length:Int))
                   ((at? ls s_69.1).bind fun e_77 =>
                    (lookT e_19 es).bind fun _ =>
                     (lookT e_77 es).bind fun y_83 =>
                      (zdx s y_24 y_83).bind fun y_86 =>
                       (room (s_69.2.length + [y_86].length) 8).bind fun _ =>
                        some (.inl (addI s_69.1 1,s_69.2 ++ [y_86])))
                   (some (.inr s_69.2))) (0,s_11.2.2)).bind fun r_91 =>
                  some (.inl (addI s_11.1 1,s_11.2.1 ++ [(⟨y_37.vars,y_37.reach,y_37.shared,r_62⟩:TNode)],r_91)))
         (some (.inr (s_11.2.1,s_11.2.2)))) (0,[],[])).bind fun r_96 =>
       some (⟨r_96.1,r_96.2⟩:TStructure)) (· = blurG s (ls.map F)):=by
 have hl:=hG.l
 rw [List.length_map] at hl
 have hgs:∀ {i:Nat} (h:i < ls.length),F ls[i]≠[]∧(F ls[i]).length≤10∧inG s (F ls[i]):=fun h=>hG.e _ (List.mem_map.2 ⟨_,List.getElem_mem h,rfl⟩)
 have hrow:∀ m,((ls.take m).flatMap fun a=>ls.map fun b=>nextG s (F a) (F b)).length=(ls.take m).length * ls.length:=fun m=>zgx _ _ _ (fun x _=>by simp)
 have hres:blurG s (ls.map F)=⟨ls.map fun a=>nodeG s (F a),ls.flatMap fun a=>ls.map fun b=>nextG s (F a) (F b)⟩:=by
  unfold blurG
  rw [List.map_map,List.flatMap_map]
  simp only [List.map_map]
  rfl
 rw [hres]
 refine Tot.bind (P:=(· = (ls.map (fun a=>nodeG s (F a)),ls.flatMap fun a=>ls.map fun b=>nextG s (F a) (F b)))) (Tot.loop (fun i q=>q=((i:Int),(ls.take i).map (fun a=>nodeG s (F a)),(ls.take i).flatMap fun a=>ls.map fun b=>nextG s (F a) (F b))) ls.length rfl fun i q hI hi=>?_) fun r hr=>by subst hr;exact Tot.ret rfl
 subst hI
 by_cases hlt:i < ls.length
 ·obtain ⟨g0,g1,g2⟩:=hgs hlt
  have hp:=List.length_pos_iff.2 g0
  have h0:=g2 _ (zet hp 0)
  have hi10:i * ls.length≤10 * 10:=Nat.mul_le_mul (by omega) (by omega)
  have hrl:((ls.take i).flatMap fun a=>ls.map fun b=>nextG s (F a) (F b)).length=i * ls.length:=by rw [hrow,List.length_take,Nat.min_eq_left (by omega)]
  simp only [ltI,zae,zef,List.getElem?_eq_getElem hlt,Option.bind_some,hE _ (List.getElem_mem hlt)]
  rw [if_pos (by omega),zjg g0 0,Option.bind_some,at_in' h0 zN,Option.bind_some,ownNode _ (hs.e _ (zfr h0)),Option.bind_some]
  have hm:=impl_many (s:=s) (show small (F ls[i]).length by unfold small;omega) g0 g2
  simp only [ltI,zae] at hm
  refine Tot.bind hm fun r hr=>?_
  subst hr
  simp only [List.length_map,List.length_take,List.length_singleton]
  rw [zao (by omega) (by omega),Option.bind_some]
  refine Tot.bind (P:=(· = (ls.take (i+1)).flatMap fun a=>ls.map fun b=>nextG s (F a) (F b))) (Tot.loop (fun j q=>q=((j:Int),((ls.take i).flatMap fun a=>ls.map fun b=>nextG s (F a) (F b)) ++ (ls.take j).map fun b=>nextG s (F ls[i]) (F b))) ls.length (by simp) fun j q hJ hj=>?_) fun r hr=>?_
  ·subst hJ
   by_cases hjl:j < ls.length
   ·obtain ⟨b0,b1,b2⟩:=hgs hjl
    simp only [zef,List.getElem?_eq_getElem hjl,Option.bind_some,hE _ (List.getElem_mem hjl),impl_next s hs.n (show small (F ls[i]).length by unfold small;omega) (show small (F ls[j]).length by unfold small;omega) g0 b0,List.length_append,hrl,List.length_map,List.length_take,List.length_singleton]
    rw [if_pos (by omega),zao (by omega) (by omega),Option.bind_some,zan (by omega) (by omega)]
    exact Tot.ret ⟨hjl,by rw [zcy hjl,List.map_append,List.append_assoc];rfl⟩
   ·simp only
    rw [if_neg (by omega)]
    have:j=ls.length:=by omega
    subst this
    exact Tot.ret (by show _=_;rw [List.take_length,zcy hlt,List.flatMap_append];simp)
  ·subst hr
   rw [zan (by omega) (by omega)]
   exact Tot.ret ⟨hlt,by rw [zcy hlt,List.map_append];rfl⟩
 ·simp only [ltI,zae]
  rw [if_neg (by omega)]
  have:i=ls.length:=by omega
  subst this
  exact Tot.ret (by show _=_;rw [List.take_length])
theorem zkp {s:TStructure} (hs:shortS s):zfy s=some (blurF s):=by
 have hn:=hs.n
 unfold small at hn
 unfold zfy blurF
 simp only [eqI,zae,zgh,zhg,Option.bind_some,zmf _ s hs]
 by_cases h0:s.nodes.length=0
 ·rw [if_pos (by omega),if_pos h0]
 ·rw [if_neg (by omega),if_neg h0]
  cases hc:isStrB (varsF s) s with
  | false =>
   rw [cond_false,impl_owns s hs,if_neg (by simp)]
   rfl
  | true =>
   have hb:=okB_of hs hc h0
   have hg:preT zau s=some (grpN (namesL s s.nodes.length),sortN (dstN (namesL s s.nodes.length))):=by
    unfold preT
    rw [zqe (fun i hi=>impl_name hb (by omega)) _ (Nat.le_refl _),Option.bind_some,if_pos]
    rw [Bool.and_eq_true]
    exact ⟨names_few hb,by rw [ziz];simpa using hb.z⟩
   rw [cond_true,if_pos rfl,hg,Option.bind_some]
   refine (zqi hs (F:=fun k=>posN k (namesL s s.nodes.length) 0) (fun k hk=>?_) (zjk hb)).eq
   show lookT k (grpN _)=_
   unfold grpN
   rw [znm,if_pos ((zfv _).mem_iff.1 hk)]
open Wf (wf)
open Sm (sm lg)

theorem sm_blur {s:TStructure} (h:sm s):sm (blurF s):=by
 unfold blurF
 split
 ·exact ⟨⟨by simp,by simp⟩,⟨by simp,by simp⟩⟩
 ·rename_i h0
  split
  ·rename_i hc
   have hG:=zjk (okB_of (zhv h) hc h0)
   have hl:=hG.l
   unfold blurG
   refine ⟨⟨by simp only [List.length_map];omega,fun y hy=>?_⟩,⟨?_,fun _ _=>trivial⟩⟩
   ·obtain ⟨g,hg,rfl⟩:=List.mem_map.1 hy
    obtain ⟨g0,_,g2⟩:=hG.e g hg
    have hz:=g2 _ (zet (List.length_pos_iff.2 g0) 0)
    have:=h.1.2 _ (zfr hz)
    exact ⟨this.1,this.2⟩
   ·simp only
    rw [zgx _ _ (gsF s).length (fun x _=>by simp)]
    have:(gsF s).length * (gsF s).length≤10 * 10:=Nat.mul_le_mul (by omega) (by omega)
    omega
  ·exact h
theorem sm_strOf (h:THeap):sm (strOf h):=by
 unfold strOf
 split
 ·split
  ·split
   ·rename_i h10 h4
    refine ⟨⟨by simp;omega,fun y hy=>?_⟩,⟨?_,fun _ _=>trivial⟩⟩
    ·simp only [List.mem_map,List.mem_range] at hy
     obtain ⟨i,hi,rfl⟩:=hy
     exact ⟨⟨by simp [nodeOf];omega,fun _ _=>trivial⟩,⟨by simp [nodeOf];omega,fun _ _=>trivial⟩⟩
    ·simp only
     rw [zhn]
     have:h.next.length * h.next.length≤10 * 10:=Nat.mul_le_mul h10 h10
     omega
   ·exact ⟨⟨by simp,by simp⟩,⟨by simp,by simp⟩⟩
  ·exact ⟨⟨by simp,by simp⟩,⟨by simp,by simp⟩⟩
 ·exact ⟨⟨by simp,by simp⟩,⟨by simp,by simp⟩⟩

end Go.Ev

