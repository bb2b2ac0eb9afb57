import Derived.Test.YtfcfpdcjepobpaaEvA7
import Derived.Test.YtfcfpdcjepobpaaEvA9
set_option linter.unusedSimpArgs false
set_option linter.unusedVariables false
set_option linter.unnecessarySimpa false
noncomputable section
namespace Go.Ev
def small (n:Nat):Prop:=n≤4000000

theorem findE {α:Type} (p:α→Bool):∀ (xs:List α) (i:Nat),
 foldE (β:=Unit) (ρ:=Int ⊕ Unit) (fun _ i x=>if p x then some (.inr (.inl (i:Int))) else some (.inl ())) (fun _=>some (.inr ())) () i xs =
  some (match xs.findIdx? p with | some j=>.inl ((i+j:Nat):Int) | none=>.inr ())
 | [],i=>rfl
 | x :: xs,i=>by
  rw [foldE]
  by_cases h:p x=true
  ·simp [h,List.findIdx?_cons]
  ·simp only [h,if_false,Bool.false_eq_true]
   rw [findE p xs (i+1),List.findIdx?_cons]
   simp only [h,if_false,Bool.false_eq_true]
   cases xs.findIdx? p with
   | none=>rfl
   | some j=>simp only [Option.map_some,Option.some.injEq,Sum.inl.injEq];omega

theorem zhh (n lo hi:Int):zdl n lo hi=some (decide (lo≤n∧n≤hi)):=by
 unfold zdl
 by_cases h:lo≤n <;> simp [leI,ltI,h]
theorem zdk (n lo hi:Int):zaz n lo hi=some (decide (lo≤n∧n≤hi)):=by
 unfold zaz
 by_cases h:lo≤n <;> simp [leI,ltI,h]

theorem truthOf_eq:zfd=zek:=rfl
def posF (n:Int):Nat→List Int→List Int
 | _,[]=>[]
 | i,x :: xs=>if x=n then (i:Int) :: posF n (i+1) xs else posF n (i+1) xs
theorem posE (n:Int) (N:Nat) (hN:small N):∀ (xs:List Int) (i:Nat) (acc:List Int),acc.length+xs.length≤N →
 foldE (β:=List Int) (ρ:=List Int) (fun acc i x=>if x=n then (room (acc.length+1) 8).bind fun _=>some (.inl (acc ++ [(i:Int)])) else some (.inl acc)) (fun acc=>some acc) acc i xs=some (acc ++ posF n i xs)
 | [],i,acc,_=>by simp [foldE,posF]
 | x :: xs,i,acc,h=>by
  rw [foldE]
  simp only [List.length_cons] at h
  by_cases hx:x=n
  ·unfold small at hN
   have hr:room (acc.length+1) 8=some ():=by unfold room maxBytes;rw [if_pos (by omega)]
   simp only [hx,if_true,hr,Option.bind_some]
   rw [posE n N hN xs (i+1) (acc ++ [(i:Int)]) (by simp;omega)]
   simp [posF,hx]
  ·simp only [hx,if_false]
   rw [posE n N hN xs (i+1) acc (by omega)]
   simp [posF,hx]
theorem positions (xs:List Int) (n:Int) (hl:small xs.length):zcf xs n=some (posF n 0 xs):=by
 unfold zcf
 rw [zgs xs (fun (b:List Int) i=>(b,i)) (fun acc i x=>if x=n then (room (acc.length+1) 8).bind fun _=>some (.inl (acc ++ [(i:Int)])) else some (.inl acc)) (fun acc=>some acc) (fun b i x hx=>?_) (fun b=>?_) [],posE n xs.length hl xs 0 [] (by simp)]
 ·simp
 ·have hlt:=(List.getElem?_eq_some_iff.1 hx).1
  unfold small at hl
  simp only [zei,hx,ltI,eqI,zaf,Option.bind_some]
  rw [if_pos (by omega),zam (by omega) (by omega)]
  by_cases h:x=n
  ·simp only [h,if_true,List.length_singleton]
   cases room (b.length+1) 8 <;> rfl
  ·simp [h]
 ·simp [ltI]
theorem posF_mem (n:Int):∀ (xs:List Int) (i:Nat),0 < (posF n i xs).length ↔ n∈xs
 | [],i=>by simp [posF]
 | x :: xs,i=>by
  simp only [posF]
  by_cases h:x=n
  ·simp [h]
  ·have:=posF_mem n xs (i+1)
   simp only [h,if_false,this,List.mem_cons]
   constructor
   ·exact .inr
   ·rintro (h' | h')
    ·exact absurd h'.symm h
    ·exact h'
theorem l7Has (xs:List Int) (n:Int) (hl:small xs.length):zbx xs n=some (decide (n∈xs)):=by
 unfold zbx
 rw [positions xs n hl]
 have:=posF_mem n xs 0
 simp only [Option.bind_some,ltI,Option.some.injEq]
 rw [decide_eq_decide,← this]
 omega

theorem zlx:∀ (n:Nat) (xs:List Int),xs.Nodup→(∀ x∈xs,0≤x∧x < n)→xs.length≤n
 | 0,xs,_,h=>by
  cases xs with
  | nil=>exact Nat.le_refl _
  | cons x xs=>have:=h x (List.mem_cons_self ..);omega
 | n+1,xs,hn,h=>by
  have h1:=zlx n (xs.erase (n:Int)) (hn.erase _) (fun x hx=>by
   have hx':=(hn.mem_erase_iff).1 hx
   have:=h x hx'.2
   have hne:=hx'.1
   omega)
  by_cases hm:(n:Int)∈xs
  ·rw [List.length_erase_of_mem hm] at h1;omega
  ·rw [List.erase_of_not_mem hm] at h1;omega

def fol (next:List Int):Nat→Int→List Int→(List Int) ⊕ Unit
 | 0,_,out=>.inl out
 | f+1,cur,out=>if cur = -1 then .inl out else if cur∈out then .inl out else if 0≤cur∧cur < (next.length:Int) then fol next f (next.getD cur.toNat 0) (out ++ [cur]) else .inr ()

theorem at_in {xs:List Int} {c:Int} (h:0≤c∧c < (xs.length:Int)):at? xs c=some (xs.getD c.toNat 0):=by
 unfold at?
 rw [if_pos h.1]
 have:c.toNat < xs.length:=by omega
 simp [List.getD,List.getElem?_eq_getElem this]
structure Seen (next out:List Int):Prop where
 nd:out.Nodup
 rng:∀ x∈out,0≤x∧x < (next.length:Int)
theorem Seen.len {next out:List Int} (h:Seen next out):out.length≤next.length:=zlx _ _ h.nd h.rng
theorem Seen.push {next out:List Int} (h:Seen next out) {c:Int} (hc:c ∉ out) (hr:0≤c∧c < (next.length:Int)):Seen next (out ++ [c]) :=
 ⟨by rw [List.nodup_append];exact ⟨h.nd,by simp,fun a ha b hb=>by simp at hb;subst hb;rintro rfl;exact hc ha⟩,fun x hx=>by
  rcases List.mem_append.1 hx with hx | hx
  ·exact h.rng x hx
  ·simp at hx;subst hx;exact hr⟩

theorem spec_fol (h:THeap) (hs:small h.next.length):∀ (f:Nat) (cur:Int) (out:List Int),Seen h.next out→h.next.length+1≤f+out.length →
 iter (ρ:=((List Int)) ⊕ (Unit)) (fun s_1:Int × (List Int) =>
  cond (neI s_1.1 (-1))
   ((zbx s_1.2 s_1.1).bind fun y_12 =>
    cond y_12
     (some (.inr (.inl s_1.2)))
     ((zaz s_1.1 0 (subI (h.next.length:Int) 1)).bind fun y_16 =>
      cond y_16
       ((room (s_1.2.length + [s_1.1].length) 8).bind fun _ =>
        (at? h.next s_1.1).bind fun e_22 =>
         some (.inl (e_22,s_1.2 ++ [s_1.1])))
       (some (.inr (.inr ())))))
   (some (.inr (.inl s_1.2)))) (cur,out)=some (fol h.next f cur out)
 | 0,cur,out,hS,hf=>by have:=hS.len;omega
 | f+1,cur,out,hS,hf=>by
  have hl:=hS.len
  have hs':=hs
  unfold small at hs'
  have hso:small out.length:=by unfold small;omega
  by_cases h1:cur = -1
  ·rw [zfl (r:=.inl out) (by simp [neI,h1])]
   simp [fol,h1]
  ·by_cases h2:cur∈out
   ·rw [zfl (r:=.inl out) (by simp [neI,h1,l7Has out cur hso,h2])]
    simp [fol,h1,h2]
   ·by_cases h3:0≤cur∧cur < (h.next.length:Int)
    ·have hr:room (out.length+1) 8=some ():=by unfold room maxBytes;rw [if_pos (by omega)]
     rw [zjb (s':=(h.next.getD cur.toNat 0,out ++ [cur])) (by
      have h4:0≤cur∧cur≤(h.next.length:Int) - 1:=by omega
      simp only [neI,h1,decide_false,Bool.not_false,cond_true,l7Has out cur hso,h2,Option.bind_some,cond_false,zdk,zet (a:=(h.next.length:Int)) (b:=1) (by omega) (by omega),h4,and_self,decide_true,List.length_singleton,hr,at_in h3]),
      spec_fol h hs f _ _ (hS.push h2 h3) (by simp;omega)]
     simp [fol,h1,h2,h3]
    ·rw [zfl (r:=.inr ()) (by
      have h4:¬ (0≤cur∧cur≤(h.next.length:Int) - 1):=by omega
      simp only [neI,h1,decide_false,Bool.not_false,cond_true,l7Has out cur hso,h2,Option.bind_some,cond_false,zdk,zet (a:=(h.next.length:Int)) (b:=1) (by omega) (by omega),h4])]
     simp [fol,h1,h2,h3]

def folL (next:List Int) (c:Int):List Int:=Sum.elim id (fun _=>[]) (fol next (next.length+1) c [])
theorem ziq (h:THeap) (hs:small h.next.length) (c:Int):zdd h c=some (folL h.next c):=by
 unfold zdd
 rw [spec_fol h hs (h.next.length+1) c [] ⟨by simp,by simp⟩ (by simp)]
 unfold folL
 cases fol h.next (h.next.length+1) c [] <;> rfl

theorem folL_len (next:List Int) (c:Int):(folL next c).length≤next.length:=by
 have key:∀ f cur out,Seen next out→(Sum.elim id (fun _=>[]) (fol next f cur out):List Int).length≤next.length:=by
  intro f
  induction f with
  | zero=>intro cur out hS;exact hS.len
  | succ f ih =>
   intro cur out hS
   simp only [fol]
   split
   ·exact hS.len
   ·split
    ·exact hS.len
    ·rename_i h2
     split
     ·rename_i h3;exact ih _ _ (hS.push h2 h3)
     ·simp
 exact key _ _ _ ⟨by simp,by simp⟩

theorem allE {α ρ:Type} (p:α→Bool) (rf rt:ρ):∀ (xs:List α) (i:Nat),foldE (β:=Unit) (fun _ _ x=>if p x then some (.inl ()) else some (.inr rf)) (fun _=>some rt) () i xs=some (if xs.all p then rt else rf)
 | [],_=>rfl
 | x :: xs,i=>by
  rw [foldE]
  by_cases h:p x=true
  ·simp only [h,if_true]
   rw [allE p rf rt xs (i+1)]
   simp [h]
  ·simp [h]
def inH (next:List Int) (n:Int):Bool:=decide (-1≤n∧n≤(next.length:Int) - 1)
def cellsB (h:THeap):Bool:=h.vars.all (inH h.next) && h.next.all (inH h.next)
theorem l7Cells (h:THeap) (hv:small h.vars.length) (hs:small h.next.length):zdq h=some (cellsB h):=by
 have hv':=hv
 have hs':=hs
 unfold small at hv' hs'
 unfold zdq
 rw [zgs h.vars (fun (_:Unit) i=>i) (fun _ _ x=>if inH h.next x then some (.inl ()) else some (.inr (.inl ()))) (fun _=>some (.inr ())) (fun b i x hx=>?_) (fun b=>?_) (),allE]
 ·simp only [Option.bind_some]
  by_cases h1:h.vars.all (inH h.next)=true
  ·rw [if_pos h1]
   simp only [Sum.elim_inr]
   rw [zgs h.next (fun (_:Unit) i=>i) (fun _ _ x=>if inH h.next x then some (.inl ()) else some (.inr (.inl false))) (fun _=>some (.inr ())) (fun b i x hx=>?_) (fun b=>?_) (),allE]
   ·by_cases h2:h.next.all (inH h.next)=true
    ·simp only [h2,if_true,Option.bind_some,Sum.elim_inr,cellsB,h1,Bool.and_self]
    ·simp only [h2,if_false,Option.bind_some,Sum.elim_inl,cellsB,h1,Bool.true_and,Bool.false_eq_true]
   ·have hlt:=(List.getElem?_eq_some_iff.1 hx).1
    simp only [zei,hx,ltI,zaf,Option.bind_some,zdk]
    rw [if_pos (by omega),zam (by omega) (by omega),zet (by omega) (by omega)]
    by_cases h3:-1≤x∧x≤(h.next.length:Int) - 1 <;> simp [inH,h3]
   ·simp [ltI]
  ·rw [if_neg h1]
   simp [cellsB,h1]
 ·have hlt:=(List.getElem?_eq_some_iff.1 hx).1
  simp only [zei,hx,ltI,zaf,Option.bind_some,zdk]
  rw [if_pos (by omega),zam (by omega) (by omega),zet (by omega) (by omega)]
  by_cases h3:-1≤x∧x≤(h.next.length:Int) - 1 <;> simp [inH,h3]
 ·simp [ltI]

theorem indexF {α:Type} (xs:List α) (f:α→Option Bool) (p:α→Bool) (hf:∀ x∈xs,f x=some (p x)) (hl:small xs.length) :
 iter (ρ:=(Int) ⊕ (Unit)) (fun s_1:Int =>
  cond (ltI s_1 (xs.length:Int))
   ((at? xs s_1).bind fun e_12 =>
    (f e_12).bind fun y_17 =>
     cond y_17
      (some (.inr (.inl s_1)))
      (some (.inl (addI s_1 1))))
   (some (.inr (.inr ())))) 0=some (match xs.findIdx? p with | some j=>.inl (j:Int) | none=>.inr ()):=by
 rw [zgs xs (fun (_:Unit) i=>i) (fun _ i x=>if p x=true then some (.inr (.inl (i:Int))) else some (.inl ())) (fun _=>some (.inr ())) (fun b i x hx=>?_) (fun b=>?_) (),findE]
 ·simp
 ·have hlt:=(List.getElem?_eq_some_iff.1 hx).1
  unfold small at hl
  simp only [zei,hx,Option.bind_some,ltI,zaf,hf x (List.mem_of_getElem? hx)]
  rw [if_pos (by omega),zam (by omega) (by omega)]
  cases p x <;> simp
 ·simp [ltI]
theorem zkh {α:Type} (xs:List α) (p:α→Bool):leI 0 (match xs.findIdx? p with | some j=>(j:Int) | none=>-1)=xs.any p:=by
 cases h:xs.findIdx? p with
 | none =>
  rw [List.findIdx?_eq_none_iff] at h
  have:xs.any p=false:=List.any_eq_false.2 fun x hx=>by simp [h x hx]
  rw [this];rfl
 | some j =>
  rw [List.findIdx?_eq_some_iff_getElem] at h
  obtain ⟨hj,hp,_⟩:=h
  have:xs.any p=true:=List.any_eq_true.2 ⟨_,List.getElem_mem hj,hp⟩
  rw [this]
  simp [leI]
theorem zkn (xs:List Int) (f:Int→Option Bool) (p:Int→Bool) (hf:∀ x∈xs,f x=some (p x)) (hl:small xs.length):zbv xs f=some (xs.any p):=by
 unfold zbv zdn
 rw [indexF xs f p hf hl,← zkh]
 cases xs.findIdx? p <;> rfl
theorem zal {n b:Nat} (hn:n≤4000000) (hb:b≤1000):room n b=some ():=by
 unfold room maxBytes
 have:n * (b+1)≤4000000 * 1001:=Nat.mul_le_mul hn (by omega)
 rw [if_pos (by omega)]
theorem zmj (next:List Int) (c:Int):Seen next (folL next c):=by
 have key:∀ f cur out,Seen next out→Seen next (Sum.elim id (fun _=>[]) (fol next f cur out):List Int):=by
  intro f
  induction f with
  | zero=>intro cur out hS;exact hS
  | succ f ih =>
   intro cur out hS
   simp only [fol]
   split
   ·exact hS
   ·split
    ·exact hS
    ·rename_i h2
     split
     ·rename_i h3;exact ih _ _ (hS.push h2 h3)
     ·exact ⟨by simp,by simp⟩
 exact key _ _ _ ⟨by simp,by simp⟩
def push (acc:List Int) (x:Int):List Int:=if x∈acc then acc else acc ++ [x]
theorem Seen.push' {next out:List Int} (h:Seen next out) {c:Int} (hr:0≤c∧c < (next.length:Int)):Seen next (Go.Ev.push out c):=by
 unfold Go.Ev.push
 split
 ·exact h
 ·rename_i hc;exact h.push hc hr
theorem Seen.pushs {next:List Int}:∀ (ys out:List Int),Seen next out→(∀ x∈ys,0≤x∧x < (next.length:Int))→Seen next (ys.foldl Go.Ev.push out)
 | [],_,h,_=>h
 | y :: ys,out,h,hr=>Seen.pushs ys _ (h.push' (hr y (List.mem_cons_self ..))) fun x hx=>hr x (List.mem_cons_of_mem _ hx)
theorem pushE (next:List Int) (hs:small next.length) (q:List Int→Int→Option Bool) (hq:∀ acc x,small acc.length→q acc x=some (decide (x∈acc))):∀ (ys:List Int) (i:Nat) (acc:List Int),Seen next acc→(∀ x∈ys,0≤x∧x < (next.length:Int)) →
 foldE (β:=List Int) (ρ:=List Int) (fun acc _ x=>(q acc x).bind fun b=>cond b (some (.inl acc)) ((room (acc.length+1) 8).bind fun _=>some (.inl (acc ++ [x])))) (fun acc=>some acc) acc i ys=some (ys.foldl push acc)
 | [],_,_,_,_=>rfl
 | y :: ys,i,acc,h,hr=>by
  have hl:=h.len
  unfold small at hs
  have hsa:small acc.length:=by unfold small;omega
  rw [foldE]
  by_cases hm:y∈acc
  ·simp only [hq acc y hsa,hm,decide_true,Option.bind_some,cond_true]
   rw [pushE next hs q hq ys (i+1) acc h fun x hx=>hr x (List.mem_cons_of_mem _ hx)]
   simp [push,hm]
  ·have hroom:room (acc.length+1) 8=some ():=by unfold room maxBytes;rw [if_pos (by omega)]
   simp only [hq acc y hsa,hm,decide_false,Option.bind_some,cond_false,hroom]
   rw [pushE next hs q hq ys (i+1) _ (h.push hm (hr y (List.mem_cons_self ..))) fun x hx=>hr x (List.mem_cons_of_mem _ hx)]
   simp [push,hm]
def ordL (next vars:List Int):List Int:=vars.foldl (fun acc e=>(folL next e).foldl push acc) []
theorem ordSeen (next:List Int):∀ (vs acc:List Int),Seen next acc→Seen next (vs.foldl (fun acc e=>(folL next e).foldl push acc) acc)
 | [],_,h=>h
 | v :: vs,acc,h=>ordSeen next vs _ (Seen.pushs _ _ h (zmj next v).rng)

theorem ordE (next:List Int) (F:List Int→Int→Option (List Int)) (hF:∀ acc e,Seen next acc→F acc e=some ((folL next e).foldl push acc)):∀ (vs:List Int) (i:Nat) (acc:List Int),Seen next acc →
 foldE (β:=List Int) (ρ:=List Int) (fun acc _ e=>(F acc e).map .inl) (fun acc=>some acc) acc i vs=some (vs.foldl (fun acc e=>(folL next e).foldl push acc) acc)
 | [],_,_,_=>rfl
 | v :: vs,i,acc,h=>by
  rw [foldE,hF acc v h]
  simp only [Option.map_some]
  rw [ordE next F hF vs (i+1) _ (Seen.pushs _ _ h (zmj next v).rng)]
  rfl
theorem l7Order (h:THeap) (hv:small h.vars.length) (hs:small h.next.length):zej h=some (ordL h.next h.vars):=by
 unfold zej
 have hv':=hv
 unfold small at hv'
 rw [zgs h.vars (fun (b:List Int) i=>(b,i)) (fun acc _ e=>(iter (ρ:=(List Int)) (fun s_22:Int × (List Int) =>
               cond (ltI s_22.1 ((folL h.next e).length:Int))
                ((at? (folL h.next e) s_22.1).bind fun e_38 =>
                 (zbx s_22.2 e_38).bind fun y_43 =>
                  cond y_43
                   (some (.inl (addI s_22.1 1,s_22.2)))
                   ((at? (folL h.next e) s_22.1).bind fun _ =>
                    (room (s_22.2.length + [e_38].length) 8).bind fun _ =>
                     some (.inl (addI s_22.1 1,s_22.2 ++ [e_38]))))
                (some (.inr s_22.2))) (0,acc)).map .inl) (fun acc=>some acc) (fun b i x hx=>?_) (fun b=>?_) []]
 ·rw [ordE h.next (fun acc e=>iter (ρ:=(List Int)) (fun s_22:Int × (List Int) =>
             cond (ltI s_22.1 ((folL h.next e).length:Int))
              ((at? (folL h.next e) s_22.1).bind fun e_38 =>
               (zbx s_22.2 e_38).bind fun y_43 =>
                cond y_43
                 (some (.inl (addI s_22.1 1,s_22.2)))
                 ((at? (folL h.next e) s_22.1).bind fun _ =>
                  (room (s_22.2.length + [e_38].length) 8).bind fun _ =>
                   some (.inl (addI s_22.1 1,s_22.2 ++ [e_38]))))
              (some (.inr s_22.2))) (0,acc)) (fun acc e hS=>?_) h.vars 0 [] ⟨by simp,by simp⟩]
  ·rfl
  ·have hfl:=folL_len h.next e
   have hs':=hs
   unfold small at hs'
   rw [zgs (folL h.next e) (fun (b:List Int) i=>(i,b)) (fun acc _ x=>(zbx acc x).bind fun b=>cond b (some (.inl acc)) ((room (acc.length+1) 8).bind fun _=>some (.inl (acc ++ [x])))) (fun acc=>some acc) (fun b i x hx=>?_) (fun b=>?_) acc,
    pushE h.next hs zbx l7Has _ _ _ hS (zmj h.next e).rng]
   ·have hlt:=(List.getElem?_eq_some_iff.1 hx).1
    simp only [zei,hx,Option.bind_some,ltI,zaf]
    rw [if_pos (by omega),zam (by omega) (by omega)]
    cases zbx b x with
    | none=>rfl
    | some t =>
     cases t with
     | true=>rfl
     | false =>
      simp only [Option.bind_some,cond_false,List.length_singleton]
      cases room (b.length+1) 8 <;> rfl
   ·simp [ltI]
 ·have hlt:=(List.getElem?_eq_some_iff.1 hx).1
  simp only [zei,hx,Option.bind_some,ltI,zaf,ziq h hs]
  rw [if_pos (by omega),zam (by omega) (by omega)]
  generalize iter _ _=r
  cases r <;> rfl
 ·simp [ltI]

def Tot {α:Type} (o:Option α) (Q:α→Prop):Prop:=∃ a,o=some a∧Q a
theorem Tot.ret {α:Type} {a:α} {Q:α→Prop} (h:Q a):Tot (some a) Q:=⟨a,rfl,h⟩
theorem Tot.bind {α β:Type} {o:Option α} {f:α→Option β} {P:α→Prop} {Q:β→Prop} (h:Tot o P) (hf:∀ a,P a→Tot (f a) Q):Tot (o.bind f) Q:=by
 obtain ⟨a,rfl,hP⟩:=h
 exact hf a hP
theorem Tot.mono {α:Type} {o:Option α} {P Q:α→Prop} (h:Tot o P) (hq:∀ a,P a→Q a):Tot o Q:=by
 obtain ⟨a,h1,h2⟩:=h
 exact ⟨a,h1,hq a h2⟩
theorem Tot.eq {α:Type} {o:Option α} {a:α} (h:Tot o (· = a)):o=some a:=by
 obtain ⟨b,h1,rfl⟩:=h
 exact h1
theorem Tot.of {α:Type} {o:Option α} {a:α} {Q:α→Prop} (h:o=some a) (hq:Q a):Tot o Q:=⟨a,h,hq⟩
theorem Tot.loop {σ ρ:Type} {step:σ→Option (σ ⊕ ρ)} {Q:ρ→Prop} (I:Nat→σ→Prop) (n:Nat) {s:σ} (h0:I 0 s)
 (h:∀ i s,I i s→i≤n→Tot (step s) (Sum.elim (fun s'=>i < n∧I (i+1) s') Q)):Tot (iter step s) Q:=by
 have key:∀ (k i:Nat) (s:σ),I i s→i+k=n→Tot (iter step s) Q:=by
  intro k
  induction k with
  | zero =>
   intro i s hI hk
   obtain ⟨o,ho,hq⟩:=h i s hI (by omega)
   cases o with
   | inl s'=>exact absurd hq.1 (by omega)
   | inr r=>exact ⟨r,zfl ho,hq⟩
  | succ k ih =>
   intro i s hI hk
   obtain ⟨o,ho,hq⟩:=h i s hI (by omega)
   cases o with
   | inl s'=>rw [zjb ho];exact ih (i+1) s' hq.2 (by omega)
   | inr r=>exact ⟨r,zfl ho,hq⟩
 exact key n 0 s h0 (by omega)
theorem loop_flat {α γ σ:Type} (S:List γ→Int→σ) (lo:Int) (xs:List α) (g:α→List γ) {acc:List γ} {step:σ→Option (σ ⊕ List γ)}
 (h:∀ (i:Nat) x b,xs[i]?=some x→b.length+(g x).length≤acc.length+(xs.flatMap g).length→step (S b (lo+i))=some (.inl (S (b ++ g x) (lo+i+1))))
 (he:∀ b,step (S b (lo+xs.length))=some (.inr b)):iter step (S acc lo)=some (acc ++ xs.flatMap g):=by
 have key:∀ (suf:List α) (i:Nat) (b:List γ),xs.drop i=suf→i+suf.length=xs.length→b.length+(suf.flatMap g).length=acc.length+(xs.flatMap g).length →
  iter step (S b (lo+i))=some (b ++ suf.flatMap g):=by
  intro suf
  induction suf with
  | nil =>
   intro i b _ hi _
   simp only [List.length_nil,Nat.add_zero] at hi
   subst hi
   rw [zfl (he b)];simp
  | cons x suf ih =>
   intro i b hd hi hb
   have hx:xs[i]?=some x:=by
    have:=congrArg (fun l=>l[0]?) hd
    simpa using this
   have hd2:xs.drop (i+1)=suf:=by
    have:=congrArg List.tail hd
    simpa using this
   simp only [List.length_cons] at hi
   simp only [List.flatMap_cons,List.length_append] at hb
   rw [zjb (h i x b hx (by omega))]
   have:=ih (i+1) (b ++ g x) hd2 (by omega) (by simp only [List.length_append];omega)
   rw [show lo+(i:Int)+1=lo+((i+1:Nat):Int) by omega,this]
   simp
 have:=key xs 0 acc rfl (by simp) rfl
 simpa using this
def Cells (next:List Int):Prop:=∀ x∈next,-1≤x∧x < (next.length:Int)
def lastI (xs:List Int):Int:=xs.getD (xs.length - 1) 0
theorem small_fol {next:List Int} (hs:small next.length) (c:Int):small (folL next c).length:=Nat.le_trans (folL_len next c) hs
theorem lastI_at {xs:List Int} (h:xs≠[]) (hl:small xs.length):at? xs (subI (xs.length:Int) 1)=some (lastI xs):=by
 have:0 < xs.length:=List.length_pos_iff.2 h
 unfold small at hl
 rw [zet (by omega) (by omega)]
 unfold at? lastI
 rw [if_pos (by omega),show ((xs.length:Int) - 1).toNat=xs.length - 1 by omega]
 rw [List.getElem?_eq_getElem (by omega)]
 simp [List.getD,List.getElem?_eq_getElem (show xs.length - 1 < xs.length by omega)]
theorem lastI_mem {xs:List Int} (h:xs≠[]):lastI xs∈xs:=by
 have:0 < xs.length:=List.length_pos_iff.2 h
 unfold lastI
 simp [List.getD,List.getElem?_eq_getElem (show xs.length - 1 < xs.length by omega)]
theorem zpa {α β:Type} (xs:List α) (f:α→List β) (N:Nat) (h:∀ x∈xs,(f x).length≤N):(xs.flatMap f).length≤xs.length * N:=by
 induction xs with
 | nil=>simp
 | cons x xs ih =>
  have h1:=h x (List.mem_cons_self ..)
  have h2:=ih fun y hy=>h y (List.mem_cons_of_mem _ hy)
  rw [List.flatMap_cons,List.length_append,List.length_cons,Nat.add_mul]
  omega
theorem zmo (xs:List Int) (h:small xs.length):zby xs=some xs:=by
 unfold zby ziy
 rw [zal h (by omega)]
 rfl
theorem zen {α:Type} {xs:List α} {i:Nat} (h:i < xs.length):xs.take (i+1)=xs.take i ++ [xs[i]]:=by simp
theorem Tot.flat {α γ σ:Type} (S:List γ→Int→σ) (lo:Int) (xs:List α) (g:α→List γ) {acc:List γ} {step:σ→Option (σ ⊕ List γ)} {s:σ} {Q:List γ→Prop} (hs:s=S acc lo) (hQ:Q (acc ++ xs.flatMap g))
 (h:∀ (i:Nat) x b,xs[i]?=some x→b.length+(g x).length≤acc.length+(xs.flatMap g).length→Tot (step (S b (lo+i))) (· = .inl (S (b ++ g x) (lo+i+1))))
 (he:∀ b,Tot (step (S b (lo+xs.length))) (· = .inr b)):Tot (iter step s) Q:=by
 subst hs
 exact Tot.of (loop_flat S lo xs g (fun i x b hx hb=>(h i x b hx hb).eq) fun b=>(he b).eq) hQ
def t3 (b:Bool):Int:=if b then 2 else 0
theorem zow (b:Bool):zek b=some (t3 b):=by cases b <;> rfl
def nodeOf (h:THeap) (i:Nat):TNode:=⟨h.vars.map fun e=>t3 (decide (e=(i:Int))),h.vars.map fun e=>t3 (decide ((i:Int)∈folL h.next e)),t3 (decide (1 < ((posF (i:Int) 0 h.next).length:Int))),0⟩
def arrowsOf (h:THeap) (i:Nat):List Int:=(List.range h.next.length).map fun j:Nat=>t3 (decide (h.next.getD i 0=(j:Int)))
def strOf (h:THeap):TStructure :=
 if cellsB h then if h.next.length≤10 then if 1≤h.vars.length∧h.vars.length≤4 then ⟨(List.range h.next.length).map (nodeOf h),(List.range h.next.length).flatMap (arrowsOf h)⟩ else ⟨[],[]⟩ else ⟨[],[]⟩ else ⟨[],[]⟩
theorem arrowsOf_len (h:THeap) (i:Nat):(arrowsOf h i).length=h.next.length:=by simp [arrowsOf]
theorem zfk {α β:Type} (xs:List α) (f:α→List β) (n:Nat) (h:∀ x∈xs,(f x).length=n):(xs.flatMap f).length=xs.length * n:=by
 induction xs with
 | nil=>simp
 | cons x xs ih =>
  rw [List.flatMap_cons,List.length_append,h x (List.mem_cons_self ..),ih fun y hy=>h y (List.mem_cons_of_mem _ hy),List.length_cons,Nat.add_mul]
  omega
theorem zjw (h:THeap) (m:Nat):((List.range m).flatMap (arrowsOf h)).length=m * h.next.length:=by
 have:=zfk (List.range m) (arrowsOf h) h.next.length fun x _=>arrowsOf_len h x
 simpa using this
theorem zex (h:THeap) (hv:small h.vars.length) (hs:small h.next.length):zbm h=some (strOf h):=by
 unfold zbm strOf
 simp only [l7Cells h hv hs,Option.bind_some,zdk]
 cases hc:cellsB h with
 | false=>rfl
 | true =>
  simp only [cond_true,if_true,ltI,zaf]
  by_cases h10:h.next.length≤10
  ·rw [if_neg (by omega),if_pos h10]
   by_cases h4:1≤h.vars.length∧h.vars.length≤4
   ·rw [if_pos (by omega),if_pos h4]
    refine Tot.eq (Tot.bind (P:=(· = ((List.range h.next.length).map (nodeOf h),(List.range h.next.length).flatMap (arrowsOf h)))) (Tot.loop (fun i s=>s=((i:Int),(List.range i).map (nodeOf h),(List.range i).flatMap (arrowsOf h))) h.next.length rfl fun i s hI hi=>?_) fun r hr=>by subst hr;exact Tot.ret rfl)
    subst hI
    by_cases hlt:i < h.next.length
    ·simp only [if_pos (show (i:Int) < h.next.length by omega),positions h.next i hs,zow,Option.bind_some]
     refine Tot.bind (P:=(· = ((nodeOf h i).vars,(nodeOf h i).reach))) (Tot.loop (fun j s=>s=((j:Int),(h.vars.take j).map (fun e=>t3 (decide (e=(i:Int)))),(h.vars.take j).map (fun e=>t3 (decide ((i:Int)∈folL h.next e))))) h.vars.length (by simp) fun j s hJ hj=>?_) fun r hr=>?_
     ·subst hJ
      by_cases hjl:j < h.vars.length
      ·simp only [if_pos (show (j:Int) < h.vars.length by omega),zei,List.getElem?_eq_getElem hjl,Option.bind_some,ziq h hs,l7Has _ _ (small_fol hs _),List.length_map,List.length_take,List.length_singleton,eqI,zow]
       rw [zal (by omega) (by omega),Option.bind_some,Option.bind_some,zam (by omega) (by omega)]
       exact Tot.ret ⟨hjl,by rw [zen hjl];simp only [List.map_append,List.map_cons,List.map_nil,Int.natCast_add,Int.cast_ofNat_Int]⟩
      ·rw [if_neg (by simp only;omega)]
       have:j=h.vars.length:=by omega
       subst this
       exact Tot.ret (by simp [nodeOf])
     ·subst hr
      simp only [List.length_map,List.length_range,List.length_singleton]
      rw [zal (by omega) (by omega),Option.bind_some]
      have hal:=zjw h i
      have hal2:i * h.next.length≤10 * 10:=Nat.mul_le_mul (by omega) h10
      refine Tot.bind (P:=(· = (List.range (i+1)).flatMap (arrowsOf h))) (Tot.loop (fun j s=>s=((j:Int),(List.range i).flatMap (arrowsOf h) ++ (List.range j).map fun k:Nat=>t3 (decide (h.next.getD i 0=(k:Int))))) h.next.length (by simp) fun j s hJ hj=>?_) fun r hr=>?_
      ·subst hJ
       by_cases hjl:j < h.next.length
       ·have hg:h.next.getD i 0=h.next[i]:=by simp [List.getD,hlt]
        simp only [if_pos (show (j:Int) < h.next.length by omega),zei,List.getElem?_eq_getElem hlt,Option.bind_some,List.length_append,List.length_map,List.length_range,hal,List.length_singleton,eqI,zow]
        rw [zal (by omega) (by omega),Option.bind_some,zam (by omega) (by omega)]
        exact Tot.ret ⟨hjl,by rw [List.range_succ,List.map_append,List.map_cons,List.map_nil,hg,List.append_assoc];rfl⟩
       ·rw [if_neg (by simp only;omega)]
        have:j=h.next.length:=by omega
        subst this
        exact Tot.ret (by simp [List.range_succ,arrowsOf])
      ·subst hr
       rw [zam (by omega) (by omega)]
       exact Tot.ret ⟨hlt,by simp [List.range_succ,nodeOf]⟩
    ·rw [if_neg (by simp only;omega)]
     have:i=h.next.length:=by omega
     subst this
     exact Tot.ret rfl
   ·rw [if_neg (by omega),if_neg h4]
  ·rw [if_pos (by omega),if_neg h10]
theorem strOf_len (h:THeap):(strOf h).nodes.length≤10:=by
 unfold strOf
 split
 ·split
  ·split
   ·simpa
   ·simp
  ·simp
 ·simp
def firstR {ρ υ:Type} (o:Option ρ) (u:υ):ρ ⊕ υ:=match o with | some r=>.inl r | none=>.inr u
theorem Tot.first {ρ υ:Type} {step:Int→Option (Int ⊕ (ρ ⊕ υ))} {Q:ρ ⊕ υ→Prop} (n:Nat) (F:Nat→Option ρ) (u:υ)
 (h:∀ i:Nat,i < n→Tot (step i) (· = (match F i with | none=>.inl ((i:Int)+1) | some r=>.inr (.inl r)))) (he:Tot (step n) (· = .inr (.inr u)))
 (hQ:Q (firstR ((List.range n).findSome? F) u)):Tot (iter step 0) Q:=by
 refine Tot.loop (fun i s=>s=(i:Int)∧∀ j,j < i→F j=none) n ⟨rfl,fun j hj=>absurd hj (Nat.not_lt_zero _)⟩ fun i s hI hi=>?_
 obtain ⟨rfl,hI⟩:=hI
 by_cases hlt:i < n
 ·refine (h i hlt).mono fun o ho=>?_
  subst ho
  cases hF:F i with
  | none =>
   refine ⟨hlt,rfl,fun j hj=>?_⟩
   by_cases hji:j=i
   ·subst hji;exact hF
   ·exact hI j (by omega)
  | some r =>
   have:(List.range n).findSome? F=some r:=by
    rw [List.findSome?_eq_some_iff]
    refine ⟨List.range i,i,(List.range' (i+1) (n - i - 1)),?_,hF,fun j hj=>hI j (List.mem_range.1 hj)⟩
    rw [List.range_eq_range',List.range_eq_range',← List.range'_succ,show n - i - 1+1=n - i by omega]
    have:=@List.range'_append 0 i (n - i) 1
    simp only [Nat.one_mul,Nat.zero_add] at this
    rw [this]
    congr 1
    omega
   rw [this] at hQ
   exact hQ
 ·have:i=n:=by omega
  subst this
  refine he.mono fun o ho=>?_
  subst ho
  have:(List.range i).findSome? F=none:=by
   rw [List.findSome?_eq_none_iff]
   exact fun j hj=>hI j (List.mem_range.1 hj)
  rw [this] at hQ
  exact hQ
theorem zke {ρ:Type} (p:Nat→Bool) (r:ρ):∀ xs:List Nat,xs.findSome? (fun i=>if p i then none else some r)=if xs.all p then none else some r
 | []=>rfl
 | x :: xs=>by
  rw [List.findSome?_cons,zke p r xs]
  cases h:p x <;> simp [h]
theorem Tot.all {ρ υ:Type} {step:Int→Option (Int ⊕ (ρ ⊕ υ))} {Q:ρ ⊕ υ→Prop} (n:Nat) (p:Nat→Bool) (r:ρ) (u:υ)
 (h:∀ i:Nat,i < n→Tot (step i) (· = (if p i then .inl ((i:Int)+1) else .inr (.inl r)))) (he:Tot (step n) (· = .inr (.inr u)))
 (hQ:Q (if (List.range n).all p then .inr u else .inl r)):Tot (iter step 0) Q:=by
 refine Tot.first n (fun i=>if p i then none else some r) u (fun i hi=>?_) he ?_
 ·refine (h i hi).mono fun o ho=>?_
  rw [ho]
  cases p i <;> rfl
 ·rw [zke]
  cases h:(List.range n).all p <;> simpa [h,firstR] using hQ

def wB (a b:Int):Bool:=decide (0≤a∧a≤2) && (decide (0≤b∧b≤2) && (decide (b=1) || decide (a=b)))
theorem zfu (a b:Int):zbr a b=some (wB a b):=by
 unfold zbr zba wB
 simp only [zdk,Option.bind_some,zaf,eqI]
 by_cases h1:0≤a∧a≤2
 ·rw [if_pos h1]
  by_cases h2:0≤b∧b≤2
  ·rw [if_pos h2]
   by_cases h3:b=1
   ·simp [h1,h3]
   ·simp [h1,h2,h3]
  ·rw [if_neg h2];simp [h2]
 ·rw [if_neg h1];simp [h1]
def listW (a b:List Int):Bool:=decide (a.length=b.length) && (List.range a.length).all fun i=>wB (a.getD i 0) (b.getD i 0)
theorem zgf {α:Type} {xs:List α} {i:Nat} (h:i < xs.length) (d:α):at? xs (i:Int)=some (xs.getD i d):=by
 rw [zei,List.getElem?_eq_getElem h];simp [List.getD,h]
theorem znc (a b:List Int) (ha:small a.length):zdb a b=some (listW a b):=by
 unfold small at ha
 unfold zdb listW
 simp only [neI,zdf]
 by_cases h:a.length=b.length
 ·rw [if_pos (by omega)]
  simp only [h,decide_true,Bool.true_and]
  refine Tot.eq (Tot.bind (P:=(· = if (List.range a.length).all (fun i=>wB (a.getD i 0) (b.getD i 0)) then .inr () else .inl ())) (Tot.all a.length (fun i=>wB (a.getD i 0) (b.getD i 0)) () () (fun i hi=>?_) ?_ (by simp)) fun r hr=>?_)
  ·rw [← h]
   simp only [ltI,zaf,zgf hi 0,zgf (show i < b.length by omega) 0,Option.bind_some,zfu]
   rw [if_pos (by omega),zam (by omega) (by omega)]
   cases wB (a.getD i 0) (b.getD i 0) <;> exact Tot.ret rfl
  ·rw [← h]
   simp only [ltI,zaf]
   rw [if_neg (by omega)]
   exact Tot.ret rfl
  ·subst hr
   rw [h]
   cases (List.range b.length).all (fun i=>wB (a.getD i 0) (b.getD i 0)) <;> exact Tot.ret rfl
 ·rw [if_neg (by omega)]
  simp [h]
def zN:TNode:=⟨[],[],0,0⟩
def nodeW (x y:TNode):Bool:=listW x.vars y.vars && (listW x.reach y.reach && (wB x.shared y.shared && wB x.many y.many))
def okN (x:TNode):Prop:=small x.vars.length∧small x.reach.length
theorem spec_node (x y:TNode) (hx:okN x):zel x y=some (nodeW x y):=by
 unfold zel nodeW
 rw [znc _ _ hx.1,znc _ _ hx.2,zfu,zfu]
 cases listW x.vars y.vars <;> cases listW x.reach y.reach <;> cases wB x.shared y.shared <;> rfl
def nextV (s:TStructure) (i j:Int):Int :=
 if 0≤i∧i≤(s.nodes.length:Int) - 1 then if 0≤j∧j≤(s.nodes.length:Int) - 1 then if s.next.length=s.nodes.length * s.nodes.length then s.next.getD (i * s.nodes.length+j).toNat 0 else 1 else 1 else 1
theorem zko {n:Nat} (h:small n):n * n≤16000000000000:=Nat.le_trans (Nat.mul_le_mul h h) (by decide)
theorem place_in {n:Nat} {i j:Int} (hi:0≤i∧i≤(n:Int) - 1) (hj:0≤j∧j≤(n:Int) - 1):0≤i * n∧i * n+j < ((n * n:Nat):Int):=by
 have h1:i * n≤((n:Int) - 1) * n:=Int.mul_le_mul_of_nonneg_right hi.2 (by omega)
 have h2:0≤i * (n:Int):=Int.mul_nonneg hi.1 (by omega)
 rw [Int.sub_mul,Int.one_mul] at h1
 have h3:((n * n:Nat):Int)=(n:Int) * n:=by simp
 omega
theorem zfa (s:TStructure) (i j:Int) (hs:small s.nodes.length):zbh s i j=some (nextV s i j):=by
 unfold zbh nextV
 have hq:=zko hs
 have hs':=hs
 unfold small at hs'
 rw [zdk,zdk,zet (by omega) (by omega)]
 have h3:((s.nodes.length * s.nodes.length:Nat):Int)=(s.nodes.length:Int) * s.nodes.length:=by simp
 rw [zie (by omega) (by omega)]
 simp only [Option.bind_some,zaf,neI,zdf]
 by_cases hi:0≤i∧i≤(s.nodes.length:Int) - 1
 ·rw [if_pos hi,if_pos hi]
  by_cases hj:0≤j∧j≤(s.nodes.length:Int) - 1
  ·rw [if_pos hj,if_pos hj]
   by_cases hn:s.next.length=s.nodes.length * s.nodes.length
   ·obtain ⟨p1,p2⟩:=place_in hi hj
    rw [if_pos (by omega),if_pos hn,zie (by omega) (by omega),zam (by omega) (by omega),at_in (by omega)]
    rfl
   ·rw [if_neg (by omega),if_neg hn]
  ·rw [if_neg hj,if_neg hj]
 ·rw [if_neg hi,if_neg hi]
theorem zih (s:TStructure) (i j:Int) (hs:small s.nodes.length):zec s i j=some (nextV s i j):=by
 rw [← zfa s i j hs]
 unfold zec zbh zbe
 simp only [zhh,zdk,Option.bind_some]
def roundB (s t:TStructure) (to:List Int) (j:Nat):Bool :=
 wB (nextV s ((to.length:Int) - 1) j) (nextV t (lastI to) (to.getD j 0)) && (wB (nextV s j ((to.length:Int) - 1)) (nextV t (to.getD j 0) (lastI to)) && !(decide (j+1 < to.length) && (decide (to.getD j 0=lastI to) && !decide ((t.nodes.getD (lastI to).toNat zN).many=1))))
def fitB (s t:TStructure) (to:List Int):Bool:=nodeW (s.nodes.getD (to.length - 1) zN) (t.nodes.getD (lastI to).toNat zN) && (List.range to.length).all (roundB s t to)
def okS (s:TStructure):Prop:=small s.nodes.length∧∀ n∈s.nodes,okN n
theorem at_in' {α:Type} {xs:List α} {c:Int} (h:0≤c∧c < (xs.length:Int)) (d:α):at? xs c=some (xs.getD c.toNat d):=by
 unfold at?
 rw [if_pos h.1]
 have:c.toNat < xs.length:=by omega
 simp [List.getD,List.getElem?_eq_getElem this]
theorem okS_at {s:TStructure} (h:okS s) (i:Nat):okN (s.nodes.getD i zN):=by
 by_cases hi:i < s.nodes.length
 ·have:=h.2 _ (List.getElem_mem hi)
  simpa [List.getD,List.getElem?_eq_getElem hi] using this
 ·have:s.nodes.getD i zN=zN:=by simp [List.getD,List.getElem?_eq_none (Nat.le_of_not_lt hi)]
  rw [this]
  unfold okN small zN
  simp
theorem spec_fits (s t:TStructure) (to:List Int) (hs:okS s) (ht:small t.nodes.length) (h0:to≠[]) (hl:to.length≤s.nodes.length) (hr:∀ x∈to,0≤x∧x < (t.nodes.length:Int)):zdc s t to=some (fitB s t to):=by
 unfold zdc fitB
 have hpos:0 < to.length:=List.length_pos_iff.2 h0
 have hs1:=hs.1
 have hsl:small to.length:=Nat.le_trans hl hs1
 have hsl':=hsl
 unfold small at hsl' ht hs1
 have hx:=hr _ (lastI_mem h0)
 rw [lastI_at h0 hsl,zet (by omega) (by omega)]
 simp only [Option.bind_some,at_in' hx zN]
 have h1:at? s.nodes ((to.length:Int) - 1)=some (s.nodes.getD (to.length - 1) zN):=by
  rw [at_in' (by omega) zN,show ((to.length:Int) - 1).toNat=to.length - 1 by omega]
 simp only [h1,Option.bind_some,spec_node _ _ (okS_at hs _)]
 cases hn:nodeW (s.nodes.getD (to.length - 1) zN) (t.nodes.getD (lastI to).toNat zN) with
 | false=>rfl
 | true =>
  simp only [cond_true,Bool.true_and]
  refine Tot.eq (Tot.bind (P:=(· = if (List.range to.length).all (roundB s t to) then .inr () else .inl ())) (Tot.all to.length (roundB s t to) () () (fun i hi=>?_) ?_ rfl) fun r hr=>?_)
  ·simp only [leI,ltI,eqI,neI,zaf,zdf,zgf hi 0,Option.bind_some,zfu,zfa s _ _ hs.1,zfa t _ _ ht]
   rw [if_pos (by omega),zam (by omega) (by omega)]
   unfold roundB
   cases wB (nextV s ((to.length:Int) - 1) i) (nextV t (lastI to) (to.getD i 0)) with
   | false=>exact Tot.ret rfl
   | true =>
    cases wB (nextV s i ((to.length:Int) - 1)) (nextV t (to.getD i 0) (lastI to)) with
    | false=>exact Tot.ret rfl
    | true =>
     simp only [cond_true,Bool.true_and]
     by_cases h2:i+1 < to.length
     ·rw [if_pos (by omega)]
      by_cases h3:to.getD i 0=lastI to
      ·rw [if_pos h3]
       by_cases h4:(t.nodes.getD (lastI to).toNat zN).many=1
       ·rw [if_pos h4];exact Tot.ret (by rw [decide_eq_true h2,decide_eq_true h3,decide_eq_true h4];rfl)
       ·rw [if_neg h4];exact Tot.ret (by rw [decide_eq_true h2,decide_eq_true h3,decide_eq_false h4];rfl)
      ·rw [if_neg h3];exact Tot.ret (by rw [decide_eq_true h2,decide_eq_false h3];rfl)
     ·rw [if_neg (by omega)];exact Tot.ret (by rw [decide_eq_false h2];rfl)
  ·simp only [leI,zaf]
   rw [if_neg (by omega)]
   exact Tot.ret rfl
  ·subst hr
   cases (List.range to.length).all (roundB s t to) <;> exact Tot.ret rfl
def ontoB (t:TStructure) (to:List Int):Bool:=(List.range t.nodes.length).all fun j:Nat=>decide ((j:Int)∈to)
def rngT (t:TStructure) (to:List Int):Prop:=∀ x∈to,0≤x∧x < (t.nodes.length:Int)
theorem slc_take (to:List Int) (i:Nat) (hi:i < to.length) (hl:small to.length):slc to 0 (addI (i:Int) 1)=some (to.take (i+1)):=by
 unfold small at hl
 rw [zam (by omega) (by omega)]
 unfold slc
 rw [if_pos (by omega)]
 congr 1
theorem ne_take {to:List Int} {i:Nat} (hi:i < to.length):to.take (i+1)≠[]:=by
 intro h
 have:(to.take (i+1)).length=0:=by rw [h];rfl
 rw [List.length_take] at this
 omega
def upB (s t:TStructure) (to:List Int) (i:Nat):Bool:=decide (0≤to.getD i 0∧to.getD i 0≤(t.nodes.length:Int) - 1) && fitB s t (to.take (i+1))
def embB (s t:TStructure) (to:List Int):Bool:=decide (to.length=s.nodes.length) && ((List.range to.length).all (upB s t to) && ontoB t to)
theorem zkl (s t:TStructure) (to:List Int) (hs:okS s) (ht:small t.nodes.length) (hto:small to.length):zct s t to=some (embB s t to):=by
 unfold zct embB
 have hs1:=hs.1
 have ht':=ht
 have hto':=hto
 unfold small at hs1 ht' hto'
 simp only [neI,zdf]
 by_cases hl:to.length=s.nodes.length
 ·rw [if_pos (by omega),decide_eq_true hl,Bool.true_and]
  have key:Tot (iter (ρ:=(Unit) ⊕ (Unit)) (fun s_2:Int =>
   cond (ltI s_2 (to.length:Int))
    ((at? to s_2).bind fun e_15 =>
     (zaz e_15 0 (subI (t.nodes.length:Int) 1)).bind fun y_20 =>
      cond y_20
       ((slc to 0 (addI s_2 1)).bind fun z_24 =>
        (zdc s t z_24).bind fun y_31 =>
         cond y_31
          (some (.inl (addI s_2 1)))
          (some (.inr (.inl ()))))
       (some (.inr (.inl ()))))
    (some (.inr (.inr ())))) 0) (fun r=>(r=.inr ()∧(List.range to.length).all (upB s t to)=true)∨(r=.inl ()∧(List.range to.length).all (upB s t to)=false)):=by
   refine Tot.loop (fun i q=>q=(i:Int)∧∀ j,j < i→upB s t to j=true) to.length ⟨rfl,fun j hj=>absurd hj (Nat.not_lt_zero _)⟩ fun i q hI hi=>?_
   obtain ⟨rfl,hI⟩:=hI
   simp only [ltI,zaf]
   by_cases hlt:i < to.length
   ·rw [if_pos (by omega)]
    simp only [zgf hlt 0,Option.bind_some,zdk,zet (a:=(t.nodes.length:Int)) (b:=1) (by omega) (by omega),zaf]
    have hno:upB s t to i=false→(List.range to.length).all (upB s t to)=false:=fun hu=>List.all_eq_false.2 ⟨i,List.mem_range.2 hlt,by simp [hu]⟩
    by_cases hr:0≤to.getD i 0∧to.getD i 0≤(t.nodes.length:Int) - 1
    ·rw [if_pos hr,slc_take to i hlt hto,Option.bind_some]
     have hall:∀ x∈to.take (i+1),0≤x∧x < (t.nodes.length:Int):=by
      intro x hx
      obtain ⟨j,hj,rfl⟩:=List.mem_iff_getElem.1 hx
      simp only [List.length_take] at hj
      rw [List.getElem_take]
      by_cases hji:j=i
      ·subst hji
       have:to.getD j 0=to[j]:=by simp [List.getD,hlt]
       omega
      ·have hu:=hI j (by omega)
       have:to.getD j 0=to[j]'(by omega):=by simp [List.getD,show j < to.length by omega]
       simp only [upB,Bool.and_eq_true,decide_eq_true_eq] at hu
       omega
     rw [spec_fits s t _ hs ht (ne_take hlt) (by simp;omega) hall,Option.bind_some,zam (by omega) (by omega)]
     have hu:upB s t to i=fitB s t (to.take (i+1)):=by unfold upB;rw [decide_eq_true hr,Bool.true_and]
     cases hf:fitB s t (to.take (i+1)) with
     | true =>
      refine Tot.ret ⟨hlt,by simp,fun j hj=>?_⟩
      by_cases hji:j=i
      ·subst hji;rw [hu,hf]
      ·exact hI j (by omega)
     | false=>exact Tot.ret (.inr ⟨rfl,hno (hu.trans hf)⟩)
    ·rw [if_neg hr]
     refine Tot.ret (.inr ⟨rfl,hno ?_⟩)
     unfold upB
     rw [decide_eq_false hr,Bool.false_and]
   ·rw [if_neg (by omega)]
    refine Tot.ret (.inl ⟨rfl,List.all_eq_true.2 fun j hj=>hI j (by have:=List.mem_range.1 hj;omega)⟩)
  obtain ⟨r,hr,h⟩:=key
  rw [hr,Option.bind_some]
  rcases h with ⟨rfl,h⟩|⟨rfl,h⟩
  ·rw [h,Bool.true_and]
   simp only [Sum.elim_inr]
   refine Tot.eq (Tot.bind (P:=(· = if ontoB t to then .inr () else .inl false)) (Tot.all t.nodes.length (fun j:Nat=>decide ((j:Int)∈to)) false () (fun i hi=>?_) ?_ rfl) fun r hr=>?_)
   ·simp only [ltI,zaf,l7Has to _ hto,Option.bind_some]
    rw [if_pos (by omega),zam (by omega) (by omega)]
    by_cases h:(i:Int)∈to
    ·rw [if_pos h,if_pos (by simpa using h)];exact Tot.ret rfl
    ·rw [if_neg h,if_neg (by simpa using h)];exact Tot.ret rfl
   ·simp only [ltI,zaf]
    rw [if_neg (by omega)]
    exact Tot.ret rfl
   ·subst hr
    cases ontoB t to <;> exact Tot.ret rfl
  ·rw [h];rfl
 ·rw [if_neg (by omega),decide_eq_false hl]
  rfl

def pre (s t:TStructure) (to:List Int):Prop:=to.length≤s.nodes.length∧rngT t to∧∀ i,i < to.length→fitB s t (to.take (i+1))=true
theorem pre_emb {s t:TStructure} {to:List Int} (h:pre s t to) (hl:to.length=s.nodes.length):embB s t to=ontoB t to:=by
 unfold embB
 rw [decide_eq_true hl,Bool.true_and]
 have:(List.range to.length).all (upB s t to)=true:=List.all_eq_true.2 fun i hi=>by
  have hi:=List.mem_range.1 hi
  unfold upB
  have hg:to.getD i 0=to[i]:=by simp [List.getD,hi]
  have:=h.2.1 _ (List.getElem_mem hi)
  rw [h.2.2 i hi,decide_eq_true (by omega),Bool.true_and]
 rw [this,Bool.true_and]
theorem pre_push {s t:TStructure} {to:List Int} (h:pre s t to) {j:Nat} (hj:j < t.nodes.length) (hl:to.length < s.nodes.length) (hf:fitB s t (to ++ [(j:Int)])=true):pre s t (to ++ [(j:Int)]):=by
 refine ⟨by simp;omega,fun x hx=>?_,fun i hi=>?_⟩
 ·rcases List.mem_append.1 hx with hx | hx
  ·exact h.2.1 x hx
  ·simp at hx;omega
 ·simp only [List.length_append,List.length_singleton] at hi
  by_cases he:i=to.length
  ·subst he
   rw [List.take_of_length_le (by simp)]
   exact hf
  ·rw [List.take_append_of_le_length (by omega)]
   exact h.2.2 i (by omega)
def tryJ (s t:TStructure) (F:List Int→List Int × Bool) (to:List Int) (j:Nat):Option (List Int × Bool) :=
 if fitB s t (to ++ [(j:Int)]) then (if (F (to ++ [(j:Int)])).2 then some ((F (to ++ [(j:Int)])).1,true) else none) else none
def findF (s t:TStructure):Nat→List Int→List Int × Bool
 | 0,to=>(to,ontoB t to)
 | k+1,to=>(match (List.range t.nodes.length).findSome? (tryJ s t (findF s t k) to) with | some r=>r | none=>([],false))
theorem findF_len (s t:TStructure):∀ (k:Nat) (to:List Int),(findF s t k to).1.length≤to.length+k
 | 0,to=>Nat.le_refl _
 | k+1,to=>by
  unfold findF
  split
  ·rename_i r hr
   obtain ⟨j,_,hj⟩:=List.exists_of_findSome?_eq_some hr
   unfold tryJ at hj
   split at hj
   ·split at hj
    ·cases hj
     have:=findF_len s t k (to ++ [(j:Int)])
     simp only [List.length_append,List.length_singleton] at this
     simp only
     omega
    ·cases hj
   ·cases hj
  ·simp
theorem spec_find (s t:TStructure) (hs:okS s) (ht:small t.nodes.length):∀ (k:Nat) (to:List Int),to.length+k=s.nodes.length→pre s t to→fixN zbl (k+1) (s,t,to,())=some (findF s t k to)
 | 0,to,hk,hp=>by
  rw [show fixN zbl (0+1) (s,t,to,())=zcx (fun a b c=>fixN zbl 0 (a,b,c,())) s t to from rfl]
  have hs1:=hs.1
  unfold zcx
  simp only [eqI,zaf]
  rw [if_pos (by omega),zkl s t to hs ht (by unfold small at *; omega),Option.bind_some,pre_emb hp (by omega)]
  rfl
 | k+1,to,hk,hp=>by
  rw [show fixN zbl (k+1+1) (s,t,to,())=zcx (fun a b c=>fixN zbl (k+1) (a,b,c,())) s t to from rfl]
  have hs1:=hs.1
  have ht':=ht
  unfold small at hs1 ht'
  unfold zcx
  simp only [eqI,zaf]
  rw [if_neg (by omega)]
  refine Tot.eq (Tot.bind (P:=(· = firstR ((List.range t.nodes.length).findSome? (tryJ s t (findF s t k) to)) ())) (Tot.first t.nodes.length (tryJ s t (findF s t k) to) () (fun i hi=>?_) ?_ rfl) fun r hr=>?_)
  ·simp only [ltI,zaf,List.length_nil,Nat.zero_add,List.length_singleton]
   rw [if_pos (by omega),zal (by omega) (by omega),Option.bind_some,zal (by omega) (by omega),Option.bind_some,zam (by omega) (by omega),
    spec_fits s t _ hs ht (by simp) (by simp;omega) (fun x hx=>by
     rcases List.mem_append.1 hx with hx | hx
     ·exact hp.2.1 x hx
     ·simp at hx;omega),Option.bind_some]
   unfold tryJ
   cases hf:fitB s t (to ++ [(i:Int)]) with
   | false=>exact Tot.ret rfl
   | true =>
    rw [cond_true,spec_find s t hs ht k _ (by simp;omega) (pre_push hp hi (by omega) hf),Option.bind_some]
    cases hb:(findF s t k (to ++ [(i:Int)])).2 <;> exact Tot.ret (by simp [hb])
  ·simp only [ltI,zaf]
   rw [if_neg (by omega)]
   exact Tot.ret rfl
  ·subst hr
   unfold findF
   cases (List.range t.nodes.length).findSome? (tryJ s t (findF s t k) to) <;> exact Tot.ret rfl
theorem pre_nil (s t:TStructure):pre s t []:=⟨Nat.zero_le _,by simp [rngT],by simp⟩
def findE' (s t:TStructure):List Int × Bool:=let r:=findF s t s.nodes.length [];if r.2 then (r.1,true) else ([],false)
theorem spec_findE (s t:TStructure) (hs:okS s) (ht:small t.nodes.length):zbt s t=some (findE' s t):=by
 have h:zkb s t []=some (findF s t s.nodes.length []):=fixO_of zil (spec_find s t hs ht s.nodes.length [] (by simp) (pre_nil s t))
 have hl:=findF_len s t s.nodes.length []
 have hs1:=hs.1
 unfold small at hs1
 simp only [List.length_nil,Nat.zero_add] at hl
 unfold zbt findE'
 rw [h,Option.bind_some]
 cases hb:(findF s t s.nodes.length []).2 with
 | false=>simp [hb]
 | true=>simp only [cond_true,List.length_nil,Nat.zero_add];rw [zal (by omega) (by omega)];simp [hb]
def isEmb (s t:TStructure):Bool:=(findE' s t).2
theorem zfy (s t:TStructure) (hs:okS s) (ht:small t.nodes.length):zbs s t=some (isEmb s t):=by
 unfold zbs
 rw [spec_findE s t hs ht]
 rfl
theorem strOf_ok (h:THeap):okS (strOf h):=by
 have h1:=strOf_len h
 refine ⟨by unfold small;omega,?_⟩
 unfold strOf
 split
 ·split
  ·split
   ·intro n hn
    simp only [List.mem_map,List.mem_range] at hn
    obtain ⟨i,hi,rfl⟩:=hn
    unfold okN small nodeOf
    simp only [List.length_map]
    omega
   ·simp
  ·simp
 ·simp
theorem any_first {α:Type} (xs:List α) (p:α→Bool) (d:α):(List.range xs.length).findSome? (fun i=>if p (xs.getD i d) then some true else none)=if xs.any p then some true else none:=by
 have:∀ (ys:List α),(List.range ys.length).map (fun i=>ys.getD i d)=ys:=by
  intro ys
  apply List.ext_getElem
  ·simp
  ·intro i h1 h2
   simp [List.getD,h2]
 have h2:(List.range xs.length).findSome? (fun i=>if p (xs.getD i d) then some true else none)=((List.range xs.length).map (fun i=>xs.getD i d)).findSome? (fun x=>if p x then some true else none):=by
  rw [List.findSome?_map];rfl
 rw [h2,this]
 clear h2 this
 induction xs with
 | nil=>rfl
 | cons x xs ih=>rw [List.findSome?_cons,ih];cases h:p x <;> simp [h]
open Wf (wf)
open Sm (sm lg)
open Wf (wf)
open Sm (sm lg)
open Wf (wf)
open Sm (sm lg)
open Wf (wf)
open Sm (sm lg)
def truthsB (xs:List Int):Bool:=xs.all fun x=>decide (0≤x∧x≤2)
theorem all_range {α:Type} (xs:List α) (p:α→Bool) (d:α):(List.range xs.length).all (fun i=>p (xs.getD i d))=xs.all p:=by
 have h:(List.range xs.length).map (fun i=>xs.getD i d)=xs:=by
  apply List.ext_getElem
  ·simp
  ·intro i h1 h2
   simp [List.getD,h2]
 have h2:((List.range xs.length).map (fun i=>xs.getD i d)).all p=(List.range xs.length).all (fun i=>p (xs.getD i d)):=by rw [List.all_map];rfl
 rw [h] at h2
 exact h2.symm
theorem zib (xs:List Int) (h:small xs.length):zce xs=some (truthsB xs):=by
 unfold small at h
 unfold zce
 refine Tot.eq (Tot.bind (P:=(· = if truthsB xs then .inr () else .inl ())) (Tot.all xs.length (fun i=>decide (0≤xs.getD i 0∧xs.getD i 0≤2)) () () (fun i hi=>?_) ?_ ?_) fun r hr=>?_)
 ·simp only [ltI,zaf,zgf hi 0,Option.bind_some,zba,zdk]
  rw [if_pos (by omega),zam (by omega) (by omega)]
  by_cases hc:0≤xs.getD i 0∧xs.getD i 0≤2
  ·rw [if_pos hc,if_pos (by simpa using hc)];exact Tot.ret rfl
  ·rw [if_neg hc,if_neg (by simpa using hc)];exact Tot.ret rfl
 ·simp only [ltI,zaf]
  rw [if_neg (by omega)]
  exact Tot.ret rfl
 ·rw [all_range xs (fun x=>decide (0≤x∧x≤2)) 0]
  rfl
 ·subst hr
  cases truthsB xs <;> exact Tot.ret rfl
theorem zig (xs:List Int) (h:small xs.length):zch xs=some (truthsB xs):=by
 unfold zch
 rw [zkn xs (fun x0=>zda x0) (fun x=>!decide (0≤x∧x≤2)) (fun x _=>by unfold zda zdw;rw [zhh];rfl) h]
 simp only [Option.bind_some,Option.some.injEq,notB,truthsB]
 rw [List.not_any_eq_all_not]
 congr 1
 funext x
 simp
def nodeOkB (vars:Int) (x:TNode):Bool:=decide ((x.vars.length:Int)=vars) && (decide ((x.reach.length:Int)=vars) && (truthsB x.vars && (truthsB x.reach && (decide (0≤x.shared∧x.shared≤2) && decide (0≤x.many∧x.many≤1)))))
def isStrB (vars:Int) (s:TStructure):Bool:=decide (1≤vars∧vars≤4) && (decide (s.nodes.length≤10) && (decide (s.next.length=s.nodes.length * s.nodes.length) && (truthsB s.next && s.nodes.all (nodeOkB vars))))
structure shortS (s:TStructure):Prop where
 n:small s.nodes.length
 x:small s.next.length
 e:∀ y∈s.nodes,okN y
theorem shortS.ok {s:TStructure} (h:shortS s):okS s:=⟨h.n,h.e⟩
theorem zhr {s:TStructure} (h:sm s):shortS s:=⟨by have:=h.1.1;unfold small;omega,by have:=h.2.1;unfold small;omega,fun y hy=>⟨by have:=(h.1.2 y hy).1.1;unfold small;omega,by have:=(h.1.2 y hy).2.1;unfold small;omega⟩⟩
theorem zey (vars:Int) (s:TStructure) (h:shortS s):zav vars s=some (isStrB vars s):=by
 have hn:=h.n
 have hq:=zko hn
 unfold small at hn
 unfold zav
 refine Tot.eq (Tot.bind (P:=(· = if s.nodes.all (nodeOkB vars) then .inr () else .inl ())) (Tot.all s.nodes.length (fun i=>nodeOkB vars (s.nodes.getD i zN)) () () (fun i hi=>?_) ?_ ?_) fun r hr=>?_)
 ·have hm:s.nodes.getD i zN∈s.nodes:=by simp [List.getD,hi]
  have ho:=h.e _ hm
  simp only [ltI,zaf,zgf hi zN,Option.bind_some]
  rw [if_pos (by omega),zam (by omega) (by omega)]
  generalize s.nodes.getD i zN=y at *
  simp only [neI,zdf,zib _ ho.1,zib _ ho.2,zba,zdk,Option.bind_some,zaf]
  unfold nodeOkB
  by_cases h1:(y.vars.length:Int)=vars
  ·rw [if_pos h1,decide_eq_true h1]
   by_cases h2:(y.reach.length:Int)=vars
   ·rw [if_pos h2,decide_eq_true h2]
    cases truthsB y.vars <;> cases truthsB y.reach <;> try exact Tot.ret rfl
    simp only [cond_true,Bool.true_and]
    by_cases h3:0≤y.shared∧y.shared≤2
    ·rw [if_pos h3,decide_eq_true h3]
     by_cases h4:0≤y.many∧y.many≤1
     ·rw [if_pos h4,decide_eq_true h4];exact Tot.ret rfl
     ·rw [if_neg h4,decide_eq_false h4];exact Tot.ret rfl
    ·rw [if_neg h3,decide_eq_false h3];exact Tot.ret rfl
   ·rw [if_neg h2,decide_eq_false h2];exact Tot.ret rfl
  ·rw [if_neg h1,decide_eq_false h1];exact Tot.ret rfl
 ·simp only [ltI,zaf]
  rw [if_neg (by omega)]
  exact Tot.ret rfl
 ·rw [all_range s.nodes (nodeOkB vars) zN]
 ·subst hr
  have h3:((s.nodes.length * s.nodes.length:Nat):Int)=(s.nodes.length:Int) * s.nodes.length:=by simp
  unfold isStrB
  cases hall:s.nodes.all (nodeOkB vars) with
  | false=>simp only [Bool.and_false];exact Tot.ret rfl
  | true =>
   simp only [if_true,Sum.elim_inr,zdk,Option.bind_some,zaf,leI,eqI,zib _ h.x,Bool.and_true]
   rw [zie (by omega) (by omega)]
   by_cases h1:1≤vars∧vars≤4
   ·rw [if_pos h1,decide_eq_true h1,Bool.true_and]
    by_cases h2:s.nodes.length≤10
    ·rw [if_pos (by omega),decide_eq_true h2,Bool.true_and]
     by_cases h4:s.next.length=s.nodes.length * s.nodes.length
     ·rw [if_pos (by omega),decide_eq_true h4,Bool.true_and];exact Tot.ret rfl
     ·rw [if_neg (by omega),decide_eq_false h4];exact Tot.ret rfl
    ·rw [if_neg (by omega),decide_eq_false h2];exact Tot.ret rfl
   ·rw [if_neg h1,decide_eq_false h1];exact Tot.ret rfl
theorem zjt (xs:List TNode) (f:TNode→Option Bool) (p:TNode→Bool) (hf:∀ x∈xs,f x=some (p x)) (hl:small xs.length):zbn xs f=some (xs.any p):=by
 unfold zbn zbd
 rw [indexF xs f p hf hl,← zkh]
 cases xs.findIdx? p <;> rfl
theorem zkm (vars:Int) (s:TStructure) (h:shortS s):zcu vars s=some (isStrB vars s):=by
 have hn:=h.n
 have hq:=zko hn
 unfold small at hn
 have h3:((s.nodes.length * s.nodes.length:Nat):Int)=(s.nodes.length:Int) * s.nodes.length:=by simp
 have hc:=zjt s.nodes (fun x0=>zco x0 vars) (fun y=>!nodeOkB vars y) (fun y hy=>by
  have ho:=h.e y hy
  unfold zco nodeOkB
  simp only [neI,zdf,zig _ ho.1,zig _ ho.2,zdw,zhh,Option.bind_some,zaf]
  by_cases h1:(y.vars.length:Int)=vars
  ·rw [if_pos h1,decide_eq_true h1]
   by_cases h2:(y.reach.length:Int)=vars
   ·rw [if_pos h2,decide_eq_true h2]
    cases truthsB y.vars <;> cases truthsB y.reach <;> try rfl
    simp only [cond_true,Bool.true_and]
    by_cases h3:0≤y.shared∧y.shared≤2
    ·rw [if_pos h3,decide_eq_true h3]
     by_cases h4:y.many=0
     ·rw [if_pos h4];simp [h4]
     ·rw [if_neg h4]
      by_cases h5:y.many=1
      ·simp [h5]
      ·have:¬ (0≤y.many∧y.many≤1):=by omega
       simp [h5,this]
    ·rw [if_neg h3,decide_eq_false h3];rfl
   ·rw [if_neg h2,decide_eq_false h2];rfl
  ·rw [if_neg h1,decide_eq_false h1];rfl) h.n
 unfold zcu isStrB
 simp only [zhh,Option.bind_some,zaf,ltI,neI,zdf,zig _ h.x]
 rw [zie (by omega) (by omega)]
 by_cases h1:1≤vars∧vars≤4
 ·rw [if_pos h1,decide_eq_true h1,Bool.true_and]
  by_cases h2:s.nodes.length≤10
  ·rw [if_neg (by omega),decide_eq_true h2,Bool.true_and]
   by_cases h4:s.next.length=s.nodes.length * s.nodes.length
   ·rw [if_pos (by omega),decide_eq_true h4,Bool.true_and]
    cases truthsB s.next with
    | false=>rfl
    | true =>
     rw [cond_true,hc]
     simp only [Option.bind_some,notB,Bool.true_and,Option.some.injEq]
     rw [List.not_any_eq_all_not]
     congr 1
     funext y
     simp
   ·rw [if_neg (by omega),decide_eq_false h4];rfl
  ·rw [if_pos (by omega),decide_eq_false h2];rfl
 ·rw [if_neg h1,decide_eq_false h1];rfl
theorem copyNode (y:TNode) (h:okN y):zbf y=some y:=by
 have h1:=h.1
 have h2:=h.2
 unfold small at h1 h2
 unfold zbf
 simp only [List.length_nil,Nat.zero_add]
 rw [zal (by omega) (by omega),Option.bind_some,zal (by omega) (by omega)]
 rfl
theorem ownNode (y:TNode) (h:okN y):zde y=some y:=by
 unfold zde
 rw [zmo _ h.1,Option.bind_some,zmo _ h.2]
 rfl
theorem zgr (s:TStructure) (h:shortS s):zcl s=some s:=by
 have hn:=h.n
 have hx:=h.x
 unfold small at hn hx
 unfold zcl
 simp only [List.length_nil,Nat.zero_add]
 rw [zal (by omega) (by omega),Option.bind_some]
 refine Tot.eq (Tot.bind (P:=(· = s.nodes)) (Tot.loop (fun i q=>q=((i:Int),s.nodes.take i)) s.nodes.length (by simp) fun i q hI hi=>?_) fun r hr=>by subst hr;exact Tot.ret rfl)
 subst hI
 by_cases hlt:i < s.nodes.length
 ·simp only [ltI,zaf,zei,List.getElem?_eq_getElem hlt,Option.bind_some,copyNode _ (h.e _ (List.getElem_mem hlt)),List.length_take,List.length_singleton]
  rw [if_pos (by omega),zal (by omega) (by omega),Option.bind_some,zam (by omega) (by omega)]
  exact Tot.ret ⟨hlt,by rw [zen hlt];rfl⟩
 ·simp only [ltI,zaf]
  rw [if_neg (by omega)]
  exact Tot.ret (List.take_of_length_le (by omega))
theorem zjc (s:TStructure) (h:shortS s):zat s=some s:=by
 have hn:=h.n
 unfold small at hn
 unfold zat
 rw [zmo _ h.x,Option.bind_some]
 refine Tot.eq (Tot.bind (P:=(· = s.nodes)) (Tot.loop (fun i q=>q=((i:Int),s.nodes.take i)) s.nodes.length (by simp) fun i q hI hi=>?_) fun r hr=>by subst hr;exact Tot.ret rfl)
 subst hI
 by_cases hlt:i < s.nodes.length
 ·simp only [ltI,zaf,zei,List.getElem?_eq_getElem hlt,Option.bind_some,ownNode _ (h.e _ (List.getElem_mem hlt)),List.length_take,List.length_singleton]
  rw [if_pos (by omega),zal (by omega) (by omega),Option.bind_some,zam (by omega) (by omega)]
  exact Tot.ret ⟨hlt,by rw [zen hlt];rfl⟩
 ·simp only [ltI,zaf]
  rw [if_neg (by omega)]
  exact Tot.ret (List.take_of_length_le (by omega))
open Wf (wf)
open Sm (sm lg)
def cellP (k:Int) (x:TNode):Bool:=decide (0≤k∧k≤(x.vars.length:Int) - 1) && (decide (x.vars.getD k.toNat 0=2) && decide (x.many=0))
def cellF (s:TStructure) (k:Int):Int:=match s.nodes.findIdx? (cellP k) with | some j=>(j:Int) | none=>-1
theorem zoh (xs:List Int) (k:Int) (h:small xs.length):zdo xs k=some (if 0≤k∧k≤(xs.length:Int) - 1 then xs.getD k.toNat 0 else 1):=by
 unfold small at h
 unfold zdo
 rw [zdk,zet (by omega) (by omega)]
 simp only [Option.bind_some,zaf]
 by_cases h1:0≤k∧k≤(xs.length:Int) - 1
 ·rw [if_pos h1,if_pos h1,at_in (by omega)];rfl
 ·rw [if_neg h1,if_neg h1]
theorem first_find {α:Type} (xs:List α) (p:α→Bool) (d:α):(List.range xs.length).findSome? (fun i=>if p (xs.getD i d) then some (i:Int) else none)=(xs.findIdx? p).map fun j:Nat=>(j:Int):=by
 cases h:xs.findIdx? p with
 | none =>
  rw [List.findIdx?_eq_none_iff] at h
  rw [Option.map_none,List.findSome?_eq_none_iff]
  intro i hi
  have hi:=List.mem_range.1 hi
  have:xs.getD i d=xs[i]:=by simp [List.getD,hi]
  rw [this,h _ (List.getElem_mem hi)]
  rfl
 | some j =>
  rw [List.findIdx?_eq_some_iff_getElem] at h
  obtain ⟨hj,hp,hmin⟩:=h
  rw [Option.map_some,List.findSome?_eq_some_iff]
  refine ⟨List.range j,j,List.range' (j+1) (xs.length - j - 1),?_,?_,fun i hi=>?_⟩
  ·rw [List.range_eq_range',List.range_eq_range',← List.range'_succ,show xs.length - j - 1+1=xs.length - j by omega]
   have:=@List.range'_append 0 j (xs.length - j) 1
   simp only [Nat.one_mul,Nat.zero_add] at this
   rw [this]
   congr 1
   omega
  ·have:xs.getD j d=xs[j]:=by simp [List.getD,hj]
   rw [this,hp];rfl
  ·have hi:=List.mem_range.1 hi
   have:xs.getD i d=xs[i]'(by omega):=by simp [List.getD,show i < xs.length by omega]
   rw [this,if_neg (by simpa using hmin i hi)]
theorem spec_cell (s:TStructure) (k:Int) (h:shortS s):zdr s k=some (cellF s k):=by
 have hn:=h.n
 unfold small at hn
 unfold zdr
 refine Tot.eq (Tot.bind (P:=(· = firstR ((s.nodes.findIdx? (cellP k)).map fun j:Nat=>(j:Int)) ())) (Tot.first s.nodes.length (fun i=>if cellP k (s.nodes.getD i zN) then some (i:Int) else none) () (fun i hi=>?_) ?_ ?_) fun r hr=>?_)
 ·have hm:s.nodes.getD i zN∈s.nodes:=by simp [List.getD,hi]
  have ho:=h.e _ hm
  simp only [ltI,zaf,zgf hi zN,Option.bind_some,zoh _ _ ho.1,eqI]
  rw [if_pos (by omega),zam (by omega) (by omega)]
  unfold cellP
  generalize s.nodes.getD i zN=y at *
  by_cases h1:0≤k∧k≤(y.vars.length:Int) - 1
  ·rw [if_pos h1,decide_eq_true h1]
   by_cases h2:y.vars.getD k.toNat 0=2
   ·rw [if_pos h2,decide_eq_true h2]
    by_cases h3:y.many=0
    ·rw [if_pos h3,decide_eq_true h3];exact Tot.ret rfl
    ·rw [if_neg h3,decide_eq_false h3];exact Tot.ret rfl
   ·rw [if_neg h2,decide_eq_false h2];exact Tot.ret rfl
  ·rw [if_neg h1,decide_eq_false h1,if_neg (by omega)];exact Tot.ret rfl
 ·simp only [ltI,zaf]
  rw [if_neg (by omega)]
  exact Tot.ret rfl
 ·rw [first_find s.nodes (cellP k) zN]
 ·subst hr
  unfold cellF
  cases s.nodes.findIdx? (cellP k) <;> exact Tot.ret rfl
theorem zox (x:TNode) (k:Int) (h:okN x):zcw x k=some (cellP k x):=by
 have h1:=h.1
 unfold small at h1
 unfold zcw cellP
 rw [zhh,zet (by omega) (by omega)]
 simp only [Option.bind_some,zaf,eqI]
 by_cases h2:0≤k∧k≤(x.vars.length:Int) - 1
 ·rw [if_pos h2,decide_eq_true h2,at_in (by omega)]
  simp only [Option.bind_some]
  by_cases h3:x.vars.getD k.toNat 0=2
  ·rw [if_pos h3,decide_eq_true h3];rfl
  ·rw [if_neg h3,decide_eq_false h3];rfl
 ·rw [if_neg h2,decide_eq_false h2];rfl
def tgtF (s:TStructure) (b:Int):List Int:=(List.range s.nodes.length).flatMap fun j:Nat=>if nextV s b (j:Int)=0 then [] else [(j:Int)]
theorem tgt_len (s:TStructure) (b:Int):(tgtF s b).length≤s.nodes.length:=by
 have:=zpa (List.range s.nodes.length) (fun j:Nat=>if nextV s b (j:Int)=0 then [] else [(j:Int)]) 1 fun x _=>by
  by_cases h:nextV s b x=0 <;> simp [h]
 simpa [tgtF] using this
theorem tgt_mem {s:TStructure} {b t:Int} (h:t∈tgtF s b):0≤t∧t < (s.nodes.length:Int):=by
 simp only [tgtF,List.mem_flatMap,List.mem_range] at h
 obtain ⟨j,hj,ht⟩:=h
 split at ht
 ·cases ht
 ·simp only [List.mem_singleton] at ht
  omega
theorem zka (s:TStructure) (b:Int) (h:small s.nodes.length):zcj s b=some (tgtF s b):=by
 have hn:=h
 unfold small at hn
 unfold zcj
 refine Tot.eq (Tot.bind (P:=(· = tgtF s b)) (Tot.flat (fun (q:List Int) i=>(q,i)) 0 (List.range s.nodes.length) (fun j:Nat=>if nextV s b (j:Int)=0 then [] else [(j:Int)]) (acc:=[]) rfl (by simp [tgtF]) (fun i x q hx hq=>?_) fun q=>?_) fun r hr=>by subst hr;exact Tot.ret rfl)
 ·obtain ⟨hi,rfl⟩:i < s.nodes.length∧i=x:=by
   have:=List.getElem?_eq_some_iff.1 hx
   simpa using this
  have hb:=tgt_len s b
  unfold tgtF at hb
  have hq2:=Nat.le_trans hq (by simpa using hb)
  simp only [Int.zero_add,ltI,zaf,zfa s _ _ h,Option.bind_some,neI,zdf,List.length_singleton]
  rw [if_pos (by omega),zam (by omega) (by omega)]
  by_cases h0:nextV s b i=0
  ·rw [if_pos h0,if_pos h0,List.append_nil];exact Tot.ret rfl
  ·rw [if_neg h0,if_neg h0]
   rw [if_neg h0,List.length_singleton] at hq2
   rw [zal (by omega) (by omega)]
   exact Tot.ret rfl
 ·simp only [Int.zero_add,ltI,zaf,List.length_range]
  rw [if_neg (by omega)]
  exact Tot.ret rfl
theorem znt (s:TStructure) (k:Int) (h:shortS s):zdv s k=some (cellF s k,if 0≤cellF s k then tgtF s (cellF s k) else []):=by
 have hn:=h.n
 unfold small at hn
 have hix:zbd s.nodes (fun x0=>zcw x0 k)=some (cellF s k):=by
  unfold zbd cellF
  rw [indexF s.nodes (fun x0=>zcw x0 k) (cellP k) (fun x hx=>zox x k (h.e x hx)) h.n]
  cases s.nodes.findIdx? (cellP k) <;> rfl
 unfold zdv
 rw [hix,Option.bind_some]
 generalize cellF s k=b
 by_cases hb:0≤b
 ·rw [if_pos hb]
  refine Tot.eq (Tot.bind (P:=(· = tgtF s b)) (Tot.flat (fun (q:List Int) i=>(q,i)) 0 (List.range s.nodes.length) (fun j:Nat=>if nextV s b (j:Int)=0 then [] else [(j:Int)]) (acc:=[]) rfl (by simp [tgtF]) (fun i x q hx hq=>?_) fun q=>?_) fun r hr=>by subst hr;exact Tot.ret rfl)
  ·obtain ⟨hi,rfl⟩:i < s.nodes.length∧i=x:=by
    have:=List.getElem?_eq_some_iff.1 hx
    simpa using this
   have hb2:=tgt_len s b
   unfold tgtF at hb2
   have hq2:=Nat.le_trans hq (by simpa using hb2)
   simp only [Int.zero_add,ltI,leI,zaf,zih s _ _ h.n,Option.bind_some,neI,zdf,List.length_singleton]
   rw [if_pos (by omega),if_pos hb,zam (by omega) (by omega)]
   by_cases h0:nextV s b i=0
   ·rw [if_pos h0,if_pos h0,List.append_nil];exact Tot.ret rfl
   ·rw [if_neg h0,if_neg h0]
    rw [if_neg h0,List.length_singleton] at hq2
    rw [zal (by omega) (by omega)]
    exact Tot.ret rfl
  ·simp only [Int.zero_add,ltI,zaf,List.length_range]
   rw [if_neg (by omega)]
   exact Tot.ret rfl
 ·rw [if_neg hb]
  refine Tot.eq (Tot.bind (P:=(· = [])) (Tot.loop (fun i q=>q=([],(i:Int))) s.nodes.length rfl fun i q hI hi=>?_) fun r hr=>by subst hr;exact Tot.ret rfl)
  subst hI
  by_cases hlt:i < s.nodes.length
  ·simp only [ltI,leI,zaf]
   rw [if_pos (by omega),if_neg hb,zam (by omega) (by omega)]
   exact Tot.ret ⟨hlt,rfl⟩
  ·simp only [ltI,zaf]
   rw [if_neg (by omega)]
   exact Tot.ret rfl
def setR (next:List Int) (base:Nat) (t:Int):Nat→List Int
 | 0=>next
 | m+1=>(setR next base t m).set (base+m) (t3 (decide ((m:Int)=t)))
theorem zkp (next:List Int) (base:Nat) (t:Int):∀ m,(setR next base t m).length=next.length
 | 0=>rfl
 | m+1=>by rw [setR,List.length_set,zkp next base t m]
def toF (s:TStructure) (b t:Int):TStructure :=
 ⟨if 0≤t then s.nodes.set t.toNat { s.nodes.getD t.toNat zN with many:=0 } else s.nodes,setR s.next (b.toNat * s.nodes.length) t s.nodes.length⟩
theorem spec_to (s:TStructure) (b t:Int) (h:shortS s) (hl:s.next.length=s.nodes.length * s.nodes.length) (hb:0≤b∧b < (s.nodes.length:Int)) (ht:t < (s.nodes.length:Int)):zcn s b t=some (toF s b t):=by
 have hn:=h.n
 have hq:=zko hn
 unfold small at hn
 unfold zcn
 rw [zgr s h,Option.bind_some]
 have hbn:(b.toNat:Int)=b:=by omega
 have hm:b * (s.nodes.length:Int)=((b.toNat * s.nodes.length:Nat):Int):=by rw [Int.natCast_mul,hbn]
 have hle:b.toNat * s.nodes.length+s.nodes.length≤s.nodes.length * s.nodes.length:=by
  have:=Nat.mul_le_mul_right s.nodes.length (show b.toNat+1≤s.nodes.length by omega)
  rwa [Nat.add_mul,Nat.one_mul] at this
 refine Tot.eq (Tot.bind (P:=(· = setR s.next (b.toNat * s.nodes.length) t s.nodes.length)) (Tot.loop (fun i q=>q=((i:Int),setR s.next (b.toNat * s.nodes.length) t i)) s.nodes.length rfl fun i q hI hi=>?_) fun r hr=>?_)
 ·subst hI
  by_cases hlt:i < s.nodes.length
  ·simp only [ltI,zaf,eqI,zow,Option.bind_some]
   rw [if_pos (by omega),zie (by omega) (by omega),hm,zam (by omega) (by omega),← Int.natCast_add,zei,List.getElem?_eq_getElem (by rw [zkp];omega),Option.bind_some,Int.toNat_natCast,zam (by omega) (by omega)]
   exact Tot.ret ⟨hlt,rfl⟩
  ·simp only [ltI,zaf]
   rw [if_neg (by omega)]
   have:i=s.nodes.length:=by omega
   subst this
   exact Tot.ret rfl
 ·subst hr
  unfold toF
  simp only [leI,zaf]
  by_cases h0:0≤t
  ·rw [if_pos h0,if_pos h0,at_in' (by omega) zN]
   exact Tot.ret rfl
  ·rw [if_neg h0,if_neg h0]
   exact Tot.ret rfl
theorem zhb (s:TStructure) (b t:Int) (h:shortS s):zcg s b t=zcn s b t:=by
 unfold zcg zcn
 rw [zjc s h,zgr s h]
 simp only [Option.bind_some,truthOf_eq]
theorem zfn (s:TStructure) (b t:Int):(toF s b t).nodes.length=s.nodes.length:=by
 unfold toF
 simp only
 split <;> simp
theorem toF_next (s:TStructure) (b t:Int):(toF s b t).next.length=s.next.length:=zkp _ _ _ _
theorem toF_node {s:TStructure} {b t:Int} (ht:t < (s.nodes.length:Int)) {y:TNode} (hy:y∈(toF s b t).nodes):∃ x∈s.nodes,y.vars=x.vars∧y.reach=x.reach:=by
 unfold toF at hy
 simp only at hy
 split at hy
 ·rename_i h0
  have hlt:t.toNat < s.nodes.length:=by omega
  rcases List.mem_or_eq_of_mem_set hy with hy | hy
  ·exact ⟨y,hy,rfl,rfl⟩
  ·subst hy
   have hg:s.nodes.getD t.toNat zN=s.nodes[t.toNat]:=by simp [List.getD,hlt]
   exact ⟨s.nodes[t.toNat],List.getElem_mem hlt,by show (s.nodes.getD t.toNat zN).vars=_;rw [hg],by show (s.nodes.getD t.toNat zN).reach=_;rw [hg]⟩
 ·exact ⟨y,hy,rfl,rfl⟩
theorem sm_to {s:TStructure} {b t:Int} (h:sm s) (ht:t < (s.nodes.length:Int)):sm (toF s b t):=by
 refine ⟨⟨by rw [zfn];exact h.1.1,fun y hy=>?_⟩,⟨by rw [toF_next];exact h.2.1,fun _ _=>trivial⟩⟩
 obtain ⟨x,hx,e1,e2⟩:=toF_node ht hy
 have:=h.1.2 x hx
 exact ⟨by rw [e1];exact this.1,by rw [e2];exact this.2⟩
def frm (n:Nat) (t:Int) (i:Nat):Int:=if i=n then t else (i:Int)
def splitF (s:TStructure) (t:Int):TStructure :=
 ⟨s.nodes ++ [s.nodes.getD t.toNat zN],(List.range (s.nodes.length+1)).flatMap fun i=>(List.range (s.nodes.length+1)).map fun j=>nextV s (frm s.nodes.length t i) (frm s.nodes.length t j)⟩
theorem spec_split (s:TStructure) (t:Int) (h:shortS s) (hn10:s.nodes.length≤10) (ht:0≤t∧t < (s.nodes.length:Int)):zdz s t=some (splitF s t):=by
 unfold zdz
 have hfrom:(List.range s.nodes.length).map (fun i:Nat=>(i:Int)) ++ [t]=(List.range (s.nodes.length+1)).map (frm s.nodes.length t):=by
  rw [List.range_succ,List.map_append]
  congr 1
  ·refine List.map_congr_left fun i hi=>?_
   have:=List.mem_range.1 hi
   unfold frm
   rw [if_neg (by omega)]
  ·simp [frm]
 refine Tot.eq (Tot.bind (P:=(· = ((List.range s.nodes.length).map (fun i:Nat=>(i:Int)),s.nodes))) (Tot.loop (fun i q=>q=((List.range i).map (fun i:Nat=>(i:Int)),(i:Int),s.nodes.take i)) s.nodes.length (by simp) fun i q hI hi=>?_) fun r hr=>?_)
 ·subst hI
  by_cases hlt:i < s.nodes.length
  ·simp only [ltI,zaf,zei,List.getElem?_eq_getElem hlt,Option.bind_some,copyNode _ (h.e _ (List.getElem_mem hlt)),List.length_take,List.length_singleton,List.length_map,List.length_range]
   rw [if_pos (by omega),zal (by omega) (by omega),Option.bind_some,zal (by omega) (by omega),Option.bind_some,zam (by omega) (by omega)]
   exact Tot.ret ⟨hlt,by rw [zen hlt,List.range_succ,List.map_append];rfl⟩
  ·simp only [ltI,zaf]
   rw [if_neg (by omega)]
   have:i=s.nodes.length:=by omega
   subst this
   exact Tot.ret (by simp)
 ·subst hr
  have hmem:s.nodes.getD t.toNat zN∈s.nodes:=by
   have:t.toNat < s.nodes.length:=by omega
   simp [List.getD,this]
  simp only [at_in' ht zN,Option.bind_some,copyNode _ (h.e _ hmem),List.length_map,List.length_range,List.length_singleton]
  rw [zal (by omega) (by omega),Option.bind_some,zal (by omega) (by omega),Option.bind_some,hfrom]
  have hgo:∀ i:Nat,i < s.nodes.length+1→at? ((List.range (s.nodes.length+1)).map (frm s.nodes.length t)) (i:Int)=some (frm s.nodes.length t i):=fun i hi=>by
   rw [zei];simp [hi]
  have hrow:∀ m,((List.range m).flatMap fun i=>(List.range (s.nodes.length+1)).map fun j=>nextV s (frm s.nodes.length t i) (frm s.nodes.length t j)).length=m * (s.nodes.length+1):=fun m=>by
   have:=zfk (List.range m) (fun i=>(List.range (s.nodes.length+1)).map fun j=>nextV s (frm s.nodes.length t i) (frm s.nodes.length t j)) (s.nodes.length+1) (fun x _=>by simp)
   simpa using this
  refine Tot.bind (P:=(· = (splitF s t).next)) (Tot.loop (fun i q=>q=((i:Int),(List.range i).flatMap fun i=>(List.range (s.nodes.length+1)).map fun j=>nextV s (frm s.nodes.length t i) (frm s.nodes.length t j))) (s.nodes.length+1) rfl fun i q hI hi=>?_) fun r hr=>by subst hr;exact Tot.ret rfl
  subst hI
  by_cases hlt:i < s.nodes.length+1
  ·simp only [leI,zaf]
   rw [if_pos (by omega)]
   have hi11:i * (s.nodes.length+1)≤11 * 11:=Nat.mul_le_mul (by omega) (by omega)
   refine Tot.bind (P:=(· = (List.range (i+1)).flatMap fun i=>(List.range (s.nodes.length+1)).map fun j=>nextV s (frm s.nodes.length t i) (frm s.nodes.length t j))) (Tot.loop (fun j q=>q=((j:Int),((List.range i).flatMap fun i=>(List.range (s.nodes.length+1)).map fun j=>nextV s (frm s.nodes.length t i) (frm s.nodes.length t j)) ++ (List.range j).map fun j=>nextV s (frm s.nodes.length t i) (frm s.nodes.length t j))) (s.nodes.length+1) (by simp) fun j q hJ hj=>?_) fun r hr=>?_
   ·subst hJ
    by_cases hjl:j < s.nodes.length+1
    ·simp only [hgo i hlt,hgo j hjl,Option.bind_some,zfa s _ _ h.n,List.length_append,hrow,List.length_map,List.length_range,List.length_singleton]
     rw [if_pos (by omega),zal (by omega) (by omega),Option.bind_some,zam (by omega) (by omega)]
     exact Tot.ret ⟨hjl,by simp only [List.range_succ,List.map_append,List.map_cons,List.map_nil,List.append_assoc];rfl⟩
    ·simp only
     rw [if_neg (by omega)]
     have:j=s.nodes.length+1:=by omega
     subst this
     exact Tot.ret (by rw [List.range_succ (n:=i),List.flatMap_append];simp)
   ·subst hr
    rw [zam (by omega) (by omega)]
    exact Tot.ret ⟨hlt,rfl⟩
  ·simp only [leI,zaf]
   rw [if_neg (by omega)]
   have:i=s.nodes.length+1:=by omega
   subst this
   exact Tot.ret rfl
theorem impl_split (s:TStructure) (t:Int) (h:shortS s) (hn10:s.nodes.length≤10) (ht:0≤t∧t < (s.nodes.length:Int)):zem s t=some (splitF s t):=by
 have hsame:∀ i:Nat,zdm (i:Int) (s.nodes.length:Int) t=some (frm s.nodes.length t i):=fun i=>by
  unfold zdm frm
  simp only [eqI,zaf]
  by_cases hi:i=s.nodes.length
  ·rw [if_pos (by omega),if_pos hi]
  ·rw [if_neg (by omega),if_neg hi]
 have hfr:∀ i:Nat,i < s.nodes.length+1→0≤frm s.nodes.length t i∧frm s.nodes.length t i < (s.nodes.length:Int):=fun i hi=>by
  unfold frm
  split <;> omega
 have hrow:∀ m,((List.range m).flatMap fun i=>(List.range (s.nodes.length+1)).map fun j=>nextV s (frm s.nodes.length t i) (frm s.nodes.length t j)).length=m * (s.nodes.length+1):=fun m=>by
  have:=zfk (List.range m) (fun i=>(List.range (s.nodes.length+1)).map fun j=>nextV s (frm s.nodes.length t i) (frm s.nodes.length t j)) (s.nodes.length+1) (fun x _=>by simp)
  simpa using this
 have hnod:(List.range (s.nodes.length+1)).map (fun i=>s.nodes.getD (frm s.nodes.length t i).toNat zN)=(splitF s t).nodes:=by
  rw [List.range_succ,List.map_append]
  show _=s.nodes ++ [s.nodes.getD t.toNat zN]
  congr 1
  ·apply List.ext_getElem
   ·simp
   ·intro i h1 h2
    simp only [List.getElem_map,List.getElem_range]
    unfold frm
    rw [if_neg (by omega)]
    simp [List.getD,h2]
  ·simp [frm]
 unfold zem
 rw [zam (by omega) (by omega)]
 refine Tot.eq (Tot.bind (P:=(· = ((splitF s t).nodes,(splitF s t).next))) (Tot.loop (fun i q=>q=((i:Int),(List.range i).map (fun i=>s.nodes.getD (frm s.nodes.length t i).toNat zN),(List.range i).flatMap fun i=>(List.range (s.nodes.length+1)).map fun j=>nextV s (frm s.nodes.length t i) (frm s.nodes.length t j))) (s.nodes.length+1) rfl fun i q hI hi=>?_) fun r hr=>by subst hr;exact Tot.ret rfl)
 subst hI
 by_cases hlt:i < s.nodes.length+1
 ·have hf:=hfr i hlt
  have hmem:s.nodes.getD (frm s.nodes.length t i).toNat zN∈s.nodes:=by
   have:(frm s.nodes.length t i).toNat < s.nodes.length:=by omega
   simp [List.getD,this]
  have hi11:i * (s.nodes.length+1)≤11 * 11:=Nat.mul_le_mul (by omega) (by omega)
  simp only [ltI,zaf,hsame,Option.bind_some,at_in' hf zN,ownNode _ (h.e _ hmem),List.length_map,List.length_range,List.length_singleton]
  rw [if_pos (by omega),zal (by omega) (by omega),Option.bind_some]
  refine Tot.bind (P:=(· = (List.range (i+1)).flatMap fun i=>(List.range (s.nodes.length+1)).map fun j=>nextV s (frm s.nodes.length t i) (frm s.nodes.length t j))) (Tot.loop (fun j q=>q=((j:Int),((List.range i).flatMap fun i=>(List.range (s.nodes.length+1)).map fun j=>nextV s (frm s.nodes.length t i) (frm s.nodes.length t j)) ++ (List.range j).map fun j=>nextV s (frm s.nodes.length t i) (frm s.nodes.length t j))) (s.nodes.length+1) (by simp) fun j q hJ hj=>?_) fun r hr=>?_
  ·subst hJ
   by_cases hjl:j < s.nodes.length+1
   ·simp only [hsame,Option.bind_some,zih s _ _ h.n,List.length_append,hrow,List.length_map,List.length_range,List.length_singleton]
    rw [if_pos (by omega),zal (by omega) (by omega),Option.bind_some,zam (by omega) (by omega)]
    exact Tot.ret ⟨hjl,by simp only [List.range_succ,List.map_append,List.map_cons,List.map_nil,List.append_assoc];rfl⟩
   ·simp only
    rw [if_neg (by omega)]
    have:j=s.nodes.length+1:=by omega
    subst this
    exact Tot.ret (by rw [List.range_succ (n:=i),List.flatMap_append];simp)
  ·subst hr
   rw [zam (by omega) (by omega)]
   exact Tot.ret ⟨hlt,by rw [List.range_succ (n:=i),List.map_append];rfl⟩
 ·simp only [ltI,zaf]
  rw [if_neg (by omega)]
  have:i=s.nodes.length+1:=by omega
  subst this
  exact Tot.ret (by rw [hnod];rfl)
open Wf (wf)
open Sm (sm lg)
def casesL (s:TStructure) (b:Int):List Int→List TStructure→List TStructure
 | [],acc=>acc
 | t :: ts,acc=>if (s.nodes.getD t.toNat zN).many=1 then (if 10≤s.nodes.length then [s] else casesL s b ts (acc ++ [toF s b t] ++ [toF (splitF s t) b s.nodes.length])) else casesL s b ts (acc ++ [toF s b t])
theorem zay (s:TStructure) (t:Int):(splitF s t).nodes.length=s.nodes.length+1:=by simp [splitF]
theorem zfh (s:TStructure) (t:Int):(splitF s t).next.length=(splitF s t).nodes.length * (splitF s t).nodes.length:=by
 rw [zay]
 have:=zfk (List.range (s.nodes.length+1)) (fun i=>(List.range (s.nodes.length+1)).map fun j=>nextV s (frm s.nodes.length t i) (frm s.nodes.length t j)) (s.nodes.length+1) (fun x _=>by simp)
 simpa [splitF] using this
theorem zln {s:TStructure} {t:Int} (h:shortS s) (hn:s.nodes.length≤10) (ht:0≤t∧t < (s.nodes.length:Int)):shortS (splitF s t):=by
 refine ⟨by rw [zay];unfold small;omega,?_,fun y hy=>?_⟩
 ·rw [zfh,zay]
  have:=Nat.mul_le_mul (show s.nodes.length+1≤11 by omega) (show s.nodes.length+1≤11 by omega)
  unfold small
  omega
 ·have hmem:s.nodes.getD t.toNat zN∈s.nodes:=by
   have:t.toNat < s.nodes.length:=by omega
   simp [List.getD,this]
  rcases List.mem_append.1 hy with hy | hy
  ·exact h.e y hy
  ·simp only [List.mem_singleton] at hy
   subst hy
   exact h.e _ hmem
theorem sm_split {s:TStructure} {t:Int} (h:sm s) (hn:s.nodes.length≤10) (ht:0≤t∧t < (s.nodes.length:Int)):sm (splitF s t):=by
 refine ⟨⟨by rw [zay];omega,fun y hy=>?_⟩,⟨?_,fun _ _=>trivial⟩⟩
 ·have hmem:s.nodes.getD t.toNat zN∈s.nodes:=by
   have:t.toNat < s.nodes.length:=by omega
   simp [List.getD,this]
  rcases List.mem_append.1 hy with hy | hy
  ·exact h.1.2 y hy
  ·simp only [List.mem_singleton] at hy
   subst hy
   exact h.1.2 _ hmem
 ·rw [zfh,zay]
  have:=Nat.mul_le_mul (show s.nodes.length+1≤11 by omega) (show s.nodes.length+1≤11 by omega)
  omega
structure Foc (s:TStructure) (b:Int) (ts:List Int):Prop where
 sh:shortS s
 n10:s.nodes.length≤10
 sq:s.next.length=s.nodes.length * s.nodes.length
 b:0≤b∧b < (s.nodes.length:Int)
 t:∀ t∈ts,0≤t∧t < (s.nodes.length:Int)
 l:ts.length≤10
theorem Foc.to {s:TStructure} {b:Int} {ts:List Int} (h:Foc s b ts) {t:Int} (ht:t < (s.nodes.length:Int)):zcn s b t=some (toF s b t):=spec_to s b t h.sh h.sq h.b ht
theorem Foc.to2 {s:TStructure} {b:Int} {ts:List Int} (h:Foc s b ts) {t:Int} (ht:t∈ts):zcn (splitF s t) b s.nodes.length=some (toF (splitF s t) b s.nodes.length):=by
 have h1:=h.t t ht
 exact spec_to _ _ _ (zln h.sh h.n10 h1) (zfh s t) (by rw [zay];have:=h.b;omega) (by rw [zay];omega)
theorem spec_cases {s:TStructure} {b:Int} {ts:List Int} (h:Foc s b ts):zea s b ts=some (casesL s b ts [toF s b (-1)]):=by
 have hl:=h.l
 have hn10:=h.n10
 unfold zea
 rw [h.to (by omega),Option.bind_some]
 refine Tot.eq (Tot.bind (P:=fun r=>Sum.elim id id r=casesL s b ts [toF s b (-1)]) (Tot.loop (fun i q=>q.2=(i:Int)∧q.1.length≤1+2 * i∧casesL s b (ts.drop i) q.1=casesL s b ts [toF s b (-1)]) ts.length ⟨rfl,by simp,rfl⟩ fun i q hI hi=>?_) fun r hr=>?_)
 ·obtain ⟨acc,q2⟩:=q
  obtain ⟨rfl,hq1,hq2⟩:=hI
  simp only at hq1 hq2
  by_cases hlt:i < ts.length
  ·have ht:=h.t _ (List.getElem_mem hlt)
   rw [List.drop_eq_getElem_cons hlt,casesL] at hq2
   simp only [ltI,zaf,zei,List.getElem?_eq_getElem hlt,Option.bind_some,h.to ht.2,List.length_singleton,at_in' ht zN,eqI,leI]
   rw [if_pos (by omega),zal (by omega) (by omega),Option.bind_some,zam (by omega) (by omega)]
   by_cases hm:(s.nodes.getD ts[i].toNat zN).many=1
   ·rw [if_pos hm]
    rw [if_pos hm] at hq2
    by_cases h10:10≤s.nodes.length
    ·rw [if_pos (by omega),zgr s h.sh]
     rw [if_pos h10] at hq2
     exact Tot.ret hq2
    ·rw [if_neg (by omega),spec_split s _ h.sh (by omega) ht,Option.bind_some,h.to2 (List.getElem_mem hlt),Option.bind_some,zal (by simp only [List.length_append,List.length_singleton];omega) (by omega)]
     rw [if_neg h10] at hq2
     exact Tot.ret ⟨hlt,by simp,by simp only [List.length_append,List.length_singleton];omega,hq2⟩
   ·rw [if_neg hm]
    rw [if_neg hm] at hq2
    exact Tot.ret ⟨hlt,by simp,by simp only [List.length_append,List.length_singleton];omega,hq2⟩
  ·simp only [ltI,zaf]
   rw [if_neg (by omega)]
   rw [List.drop_of_length_le (by omega),casesL] at hq2
   exact Tot.ret hq2
 ·cases r <;> exact Tot.ret hr
def varsF (s:TStructure):Int:=match s.nodes with | []=>0 | x :: _=>(x.vars.length:Int)
def focF (s:TStructure) (k:Int):List TStructure :=
 if cellF s k < 0 then [s] else if isStrB (varsF s) s then
  (match (tgtF s (cellF s k)).find? fun t=>decide (nextV s (cellF s k) t=2) with | some t=>[toF s (cellF s k) t] | none=>casesL s (cellF s k) (tgtF s (cellF s k)) [toF s (cellF s k) (-1)]) else [s]
theorem cellF_lt (s:TStructure) (k:Int):cellF s k < (s.nodes.length:Int):=by
 unfold cellF
 split
 ·rename_i j hj
  have:=(List.findIdx?_eq_some_iff_getElem.1 hj).1
  omega
 ·omega
theorem zkz (s:TStructure):zck s=some (varsF s):=by
 unfold zck varsF
 cases h:s.nodes with
 | nil=>rfl
 | cons x xs =>
  simp only [eqI,zaf]
  rw [if_neg (by simp only [List.length_cons];omega),show (0:Int)=((0:Nat):Int) from rfl,zei]
  rfl
theorem variables_eq:zeg=zck:=rfl
theorem foc_of {s:TStructure} {k v:Int} (h:shortS s) (hb:¬ cellF s k < 0) (hs:isStrB v s=true):Foc s (cellF s k) (tgtF s (cellF s k)):=by
 simp only [isStrB,Bool.and_eq_true,decide_eq_true_eq] at hs
 exact ⟨h,hs.2.1,hs.2.2.1,⟨by omega,cellF_lt s k⟩,fun t ht=>tgt_mem ht,Nat.le_trans (tgt_len _ _) hs.2.1⟩
theorem znw {α:Type} (xs:List α) (p:α→Bool) (d:α) {ρ:Type} (f:α→ρ):(List.range xs.length).findSome? (fun i=>if p (xs.getD i d) then some (f (xs.getD i d)) else none)=(xs.find? p).map f:=by
 have h:(List.range xs.length).map (fun i=>xs.getD i d)=xs:=by
  apply List.ext_getElem
  ·simp
  ·intro i h1 h2
   simp [List.getD,h2]
 have h2:(List.range xs.length).findSome? (fun i=>if p (xs.getD i d) then some (f (xs.getD i d)) else none)=((List.range xs.length).map (fun i=>xs.getD i d)).findSome? (fun x=>if p x then some (f x) else none):=by
  rw [List.findSome?_map];rfl
 rw [h2,h]
 clear h h2
 induction xs with
 | nil=>rfl
 | cons x xs ih=>rw [List.findSome?_cons,List.find?_cons,ih];cases hp:p x <;> simp
theorem zmx (s:TStructure) (k:Int) (h:shortS s):zdi s k=some (focF s k):=by
 unfold zdi focF
 rw [spec_cell s k h]
 simp only [Option.bind_some,ltI,zaf]
 by_cases hb:cellF s k < 0
 ·rw [if_pos hb,if_pos hb,zgr s h];rfl
 ·rw [if_neg hb,if_neg hb,zkz,Option.bind_some,zey _ s h,Option.bind_some]
  cases hs:isStrB (varsF s) s with
  | false=>rw [zgr s h];rfl
  | true =>
   have F:=foc_of h hb hs
   rw [cond_true,if_pos rfl,zka s _ h.n,Option.bind_some]
   generalize cellF s k=b at *
   generalize hts:tgtF s b=ts at *
   have hl:=F.l
   refine Tot.eq (Tot.bind (P:=(· = firstR ((ts.find? fun t=>decide (nextV s b t=2)).map fun t=>[toF s b t]) ())) (Tot.first ts.length (fun i=>if (fun t=>decide (nextV s b t=2)) (ts.getD i 0) then some ((fun t=>[toF s b t]) (ts.getD i 0)) else none) () (fun i hi=>?_) ?_ ?_) fun r hr=>?_)
   ·have hm:ts.getD i 0∈ts:=by simp [List.getD,hi]
    simp only [zgf hi 0,Option.bind_some,zfa s _ _ h.n,eqI,zaf,F.to (F.t _ hm).2]
    rw [if_pos (by omega),zam (by omega) (by omega)]
    by_cases h2:nextV s b (ts.getD i 0)=2
    ·rw [if_pos h2,if_pos (by simpa using h2)];exact Tot.ret rfl
    ·rw [if_neg h2,if_neg (by simpa using h2)];exact Tot.ret rfl
   ·rw [if_neg (by omega)]
    exact Tot.ret rfl
   ·rw [znw ts (fun t=>decide (nextV s b t=2)) 0 (fun t=>[toF s b t])]
   ·subst hr
    cases ts.find? fun t=>decide (nextV s b t=2) with
    | some t=>exact Tot.ret rfl
    | none =>
     simp only [Option.map_none,firstR,Sum.elim_inr]
     rw [spec_cases F]
     exact Tot.ret rfl
theorem zhz (s:TStructure) (k:Int) (h:shortS s):zci s k=some (focF s k):=by
 unfold zci focF
 rw [znt s k h,variables_eq,zkz]
 simp only [Option.bind_some,zkm _ s h,ltI,zaf]
 cases hs:isStrB (varsF s) s with
 | false =>
  rw [zjc s h,cond_false]
  by_cases hb:cellF s k < 0
  ·rw [if_pos hb];rfl
  ·rw [if_neg hb];rfl
 | true =>
  rw [cond_true]
  by_cases hb:cellF s k < 0
  ·rw [if_pos hb,if_pos hb,zjc s h];rfl
  ·have F:=foc_of h hb hs
   rw [if_neg hb,if_neg hb,if_pos (by omega),if_pos rfl]
   generalize cellF s k=b at *
   generalize hts:tgtF s b=ts at *
   have hl:=F.l
   have hn10:=F.n10
   refine Tot.eq (Tot.bind (P:=(· = firstR ((ts.find? fun t=>decide (nextV s b t=2)).map fun t=>[toF s b t]) ())) (Tot.first ts.length (fun i=>if (fun t=>decide (nextV s b t=2)) (ts.getD i 0) then some ((fun t=>[toF s b t]) (ts.getD i 0)) else none) () (fun i hi=>?_) ?_ ?_) fun r hr=>?_)
   ·have hm:ts.getD i 0∈ts:=by simp [List.getD,hi]
    simp only [zgf hi 0,Option.bind_some,zih s _ _ h.n,eqI,zaf,zhb s _ _ h,F.to (F.t _ hm).2]
    rw [if_pos (by omega),zam (by omega) (by omega)]
    by_cases h2:nextV s b (ts.getD i 0)=2
    ·rw [if_pos h2,if_pos (by simpa using h2)];exact Tot.ret rfl
    ·rw [if_neg h2,if_neg (by simpa using h2)];exact Tot.ret rfl
   ·rw [if_neg (by omega)]
    exact Tot.ret rfl
   ·rw [znw ts (fun t=>decide (nextV s b t=2)) 0 (fun t=>[toF s b t])]
   ·subst hr
    cases ts.find? fun t=>decide (nextV s b t=2) with
    | some t=>exact Tot.ret rfl
    | none =>
     simp only [Option.map_none,firstR,Sum.elim_inr]
     rw [zhb s _ _ h,F.to (by omega),Option.bind_some]
     refine Tot.bind (P:=fun r=>Sum.elim id id r=casesL s b ts [toF s b (-1)]) (Tot.loop (fun i q=>q.2=(i:Int)∧q.1.length≤1+2 * i∧casesL s b (ts.drop i) q.1=casesL s b ts [toF s b (-1)]) ts.length ⟨rfl,by simp,rfl⟩ fun i q hI hi=>?_) fun r hr=>?_
     ·obtain ⟨acc,q2⟩:=q
      obtain ⟨rfl,hq1,hq2⟩:=hI
      simp only at hq1 hq2
      by_cases hlt:i < ts.length
      ·have ht:=F.t _ (List.getElem_mem hlt)
       rw [List.drop_eq_getElem_cons hlt,casesL] at hq2
       simp only [zei,List.getElem?_eq_getElem hlt,Option.bind_some,zhb s _ _ h,F.to ht.2,List.length_singleton,at_in' ht zN,eqI,neI,zaf,zdf]
       rw [if_pos (by omega),zal (by omega) (by omega),Option.bind_some,zam (by omega) (by omega)]
       by_cases hm:(s.nodes.getD ts[i].toNat zN).many=1
       ·rw [if_pos hm]
        rw [if_pos hm] at hq2
        by_cases h10:10≤s.nodes.length
        ·rw [if_pos (by omega),zjc s h]
         rw [if_pos h10] at hq2
         exact Tot.ret hq2
        ·rw [if_neg (by omega),impl_split s _ h (by omega) ht,Option.bind_some,zhb _ _ _ (zln h hn10 ht),F.to2 (List.getElem_mem hlt),Option.bind_some,zal (by simp only [List.length_append,List.length_singleton];omega) (by omega)]
         rw [if_neg h10] at hq2
         exact Tot.ret ⟨hlt,by simp,by simp only [List.length_append,List.length_singleton];omega,hq2⟩
       ·rw [if_neg hm]
        rw [if_neg hm] at hq2
        exact Tot.ret ⟨hlt,by simp,by simp only [List.length_append,List.length_singleton];omega,hq2⟩
      ·simp only
       rw [if_neg (by omega)]
       rw [List.drop_of_length_le (by omega),casesL] at hq2
       exact Tot.ret hq2
     ·cases r <;> exact Tot.ret hr
theorem zjv {s:TStructure} {b:Int} (hs:sm s) (hn:s.nodes.length≤10):∀ (ts:List Int) (acc:List TStructure),(∀ t∈ts,0≤t∧t < (s.nodes.length:Int))→(∀ x∈acc,sm x)→(∀ x∈casesL s b ts acc,sm x)∧(casesL s b ts acc).length≤1+acc.length+2 * ts.length
 | [],acc,_,ha=>⟨ha,by rw [casesL];omega⟩
 | t :: ts,acc,ht,ha=>by
  have h1:=ht t (List.mem_cons_self ..)
  have hts:=fun t' ht'=>ht t' (List.mem_cons_of_mem _ ht')
  rw [casesL,List.length_cons]
  split
  ·split
   ·exact ⟨fun x hx=>by simp only [List.mem_singleton] at hx;subst hx;exact hs,by simp;omega⟩
   ·have:=zjv (b:=b) hs hn ts (acc ++ [toF s b t] ++ [toF (splitF s t) b s.nodes.length]) hts (fun x hx=>by
     rcases List.mem_append.1 hx with hx | hx
     ·rcases List.mem_append.1 hx with hx | hx
      ·exact ha x hx
      ·simp only [List.mem_singleton] at hx;subst hx;exact sm_to hs h1.2
     ·simp only [List.mem_singleton] at hx;subst hx;exact sm_to (sm_split hs hn h1) (by rw [zay];omega))
    refine ⟨this.1,Nat.le_trans this.2 ?_⟩
    simp only [List.length_append,List.length_singleton]
    omega
  ·have:=zjv (b:=b) hs hn ts (acc ++ [toF s b t]) hts (fun x hx=>by
    rcases List.mem_append.1 hx with hx | hx
    ·exact ha x hx
    ·simp only [List.mem_singleton] at hx;subst hx;exact sm_to hs h1.2)
   refine ⟨this.1,Nat.le_trans this.2 ?_⟩
   simp only [List.length_append,List.length_singleton]
   omega
theorem focF_all {s:TStructure} (k:Int) (hs:sm s):(∀ x∈focF s k,sm x)∧(focF s k).length≤30:=by
 have h1:(∀ x∈[s],sm x)∧[s].length≤30:=⟨fun x hx=>by simp only [List.mem_singleton] at hx;subst hx;exact hs,by simp⟩
 unfold focF
 split
 ·exact h1
 ·rename_i hb
  split
  ·rename_i hst
   have F:=foc_of (zhr hs) hb hst
   split
   ·rename_i t ht
    have hm:=List.mem_of_find?_eq_some ht
    exact ⟨fun x hx=>by simp only [List.mem_singleton] at hx;subst hx;exact sm_to hs (F.t t hm).2,by simp⟩
   ·have:=zjv (b:=cellF s k) hs F.n10 (tgtF s (cellF s k)) [toF s (cellF s k) (-1)] F.t (fun x hx=>by simp only [List.mem_singleton] at hx;subst hx;exact sm_to hs (by omega))
    refine ⟨this.1,Nat.le_trans this.2 ?_⟩
    have:=F.l
    simp only [List.length_singleton]
    omega
  ·exact h1
open Wf (wf)
open Sm (sm lg)
def hd3 (h:THeap):Bool × List Int × List Int:=(true,h.vars,h.next)
def okH (h:THeap):Prop:=h.vars.length≤100∧h.next.length≤100
theorem okH.v {h:THeap} (o:okH h):small h.vars.length:=by have:=o.1;unfold small;omega
theorem okH.n {h:THeap} (o:okH h):small h.next.length:=by have:=o.2;unfold small;omega
def ixI (xs:List Int) (v:Int):Int:=match xs.findIdx? (fun x=>decide (v=x)) with | some j=>(j:Int) | none=>-1
theorem posF_head (v:Int):∀ (xs:List Int) (i:Nat),(posF v i xs).head?=(xs.findIdx? (fun x=>decide (v=x))).map fun j=>((i+j:Nat):Int)
 | [],i=>rfl
 | x :: xs,i=>by
  rw [posF,List.findIdx?_cons]
  by_cases h:v=x
  ·subst h
   simp
  ·have h':¬ x=v:=fun e=>h e.symm
   simp only [h,h',if_false,decide_false,Bool.false_eq_true]
   rw [posF_head v xs (i+1)]
   cases xs.findIdx? (fun x=>decide (v=x)) with
   | none=>rfl
   | some j=>simp;omega
theorem spec_new (xs:List Int) (v:Int) (hl:small xs.length):zef xs v=some (ixI xs v):=by
 unfold zef ixI
 rw [positions xs v hl,Option.bind_some]
 have:=posF_head v xs 0
 cases hp:posF v 0 xs with
 | nil =>
  rw [hp] at this
  cases hf:xs.findIdx? (fun x=>decide (v=x)) with
  | none=>simp [eqI]
  | some j=>rw [hf] at this;cases this
 | cons p r =>
  rw [hp] at this
  cases hf:xs.findIdx? (fun x=>decide (v=x)) with
  | none=>rw [hf] at this;cases this
  | some j =>
   rw [hf] at this
   simp at this
   subst this
   have:¬ ((r.length:Int)+1=0):=by omega
   simp [eqI,this,at?]
def canF (h:THeap):THeap:=if cellsB h=true then ⟨h.vars.map (ixI (ordL h.next h.vars)),(ordL h.next h.vars).map fun c=>ixI (ordL h.next h.vars) (h.next.getD c.toNat 0)⟩ else ⟨[],[]⟩
theorem map_flat {α γ:Type} (xs:List α) (f:α→γ):xs.flatMap (fun x=>[f x])=xs.map f:=by
 induction xs with
 | nil=>rfl
 | cons x xs ih=>simp [ih]
theorem zol (h:THeap):Seen h.next (ordL h.next h.vars):=ordSeen h.next h.vars [] ⟨by simp,by simp⟩
theorem zny (xs:List Int) (F:Int→Option Int) (f:Int→Int) (hF:∀ x∈xs,F x=some (f x)) (hl:xs.length≤1000) :
 iter (ρ:=(List Int)) (fun s_8:Int × (List Int) =>
         cond (ltI s_8.1 (xs.length:Int))
          ((at? xs s_8.1).bind fun e_28 =>
           (F e_28).bind fun y_33 =>
            (room (s_8.2.length + [y_33].length) 8).bind fun _ =>
             some (.inl (addI s_8.1 1,s_8.2 ++ [y_33])))
          (some (.inr s_8.2))) (0,[])=some (xs.map f):=by
 refine Tot.eq (Tot.flat (fun b i=>(i,b)) 0 xs (fun x=>[f x]) (acc:=[]) rfl (by simp [map_flat]) (fun i x b hx hb=>?_) fun b=>?_)
 ·have hi:=(List.getElem?_eq_some_iff.1 hx).1
  rw [map_flat] at hb
  simp only [List.length_nil,List.length_map,List.length_singleton] at hb
  simp only [Int.zero_add,zdp,zei,hx,Option.bind_some,hF x (List.mem_of_getElem? hx),List.length_singleton]
  rw [if_pos (by omega),zal (by omega) (by omega),zam (by omega) (by omega)]
  exact Tot.ret rfl
 ·simp only [Int.zero_add,zdp]
  rw [if_neg (by omega)]
  exact Tot.ret rfl
theorem ord_at (h:THeap):∀ c∈ordL h.next h.vars,at? h.next c=some (h.next.getD c.toNat 0):=fun c hc=>at_in ((zol h).rng c hc)
theorem spec_canon (h:THeap) (o:okH h):zdj h=some (canF h):=by
 unfold zdj canF
 have hl:=(zol h).len
 have o2:=o.2
 have o1:=o.1
 have hs:small (ordL h.next h.vars).length:=by unfold small;omega
 simp only [l7Cells h o.v o.n,Option.bind_some,l7Order h o.v o.n]
 cases cellsB h
 ·rfl
 ·simp only [cond_true,if_true]
  rw [zny h.vars (fun c=>zef (ordL h.next h.vars) c) (ixI (ordL h.next h.vars)) (fun x _=>spec_new _ x hs) (by omega)]
  simp only [Option.bind_some]
  have:=zny (ordL h.next h.vars) (fun c=>(at? h.next c).bind fun e=>zef (ordL h.next h.vars) e) (fun c=>ixI (ordL h.next h.vars) (h.next.getD c.toNat 0)) (fun x hx=>by
   simp only [ord_at h x hx,Option.bind_some]
   exact spec_new _ _ hs) (by omega)
  simp only [Option.bind_assoc] at this
  rw [this]
  rfl
theorem canF_len (h:THeap):(canF h).vars.length≤h.vars.length∧(canF h).next.length≤h.next.length:=by
 have hl:=(zol h).len
 unfold canF
 split
 ·simp;exact hl
 ·simp

open Wf (wf)
open Sm (sm lg)

structure okB (s:TStructure):Prop where
 sh:shortS s
 v:1≤varsF s∧varsF s≤4
 n:s.nodes.length≤10
 z:1≤s.nodes.length
 e:∀ x∈s.nodes,(x.vars.length:Int)=varsF s∧(x.reach.length:Int)=varsF s
theorem okB_of {s:TStructure} (h:shortS s) (hs:isStrB (varsF s) s=true) (h0:¬ s.nodes.length=0):okB s:=by
 unfold isStrB at hs
 simp only [Bool.and_eq_true,decide_eq_true_eq,List.all_eq_true] at hs
 refine ⟨h,hs.1,hs.2.1,by omega,fun x hx=>?_⟩
 have:=hs.2.2.2.2 x hx
 unfold nodeOkB at this
 simp only [Bool.and_eq_true,decide_eq_true_eq] at this
 exact ⟨this.1,this.2.1⟩
theorem zis {s:TStructure} {i:Int} (h:0≤i∧i < (s.nodes.length:Int)):s.nodes.getD i.toNat zN∈s.nodes:=by
 have:i.toNat < s.nodes.length:=by omega
 simp [List.getD,this]

def predV (s:TStructure) (k i:Int):Int :=
 if k≤varsF s - 1 then (s.nodes.getD i.toNat zN).vars.getD k.toNat 0 else if k≤2 * varsF s - 1 then (s.nodes.getD i.toNat zN).reach.getD (k - varsF s).toNat 0 else (s.nodes.getD i.toNat zN).shared
theorem l13At_in {l:List Int} {k:Int} (hl:small l.length) (h:0≤k∧k < (l.length:Int)):zdo l k=some (l.getD k.toNat 0):=by
 unfold small at hl
 unfold zdo
 rw [zdk,zet (by omega) (by omega)]
 simp only [Option.bind_some,zaf]
 rw [if_pos (by omega),at_in' h 0]
 rfl
theorem spec_pred {s:TStructure} (hs:okB s) {k i:Int} (hi:0≤i∧i < (s.nodes.length:Int)) (hk:0≤k∧k≤2 * varsF s):zcs s k i=some (predV s k i):=by
 have hv:=hs.v
 have hn:=hs.n
 obtain ⟨e1,e2⟩:=hs.e _ (zis hi)
 obtain ⟨o1,o2⟩:=hs.sh.e _ (zis hi)
 unfold zcs predV
 rw [zkz,Option.bind_some,zdk,zdk,zdk,zet (by omega) (by omega),zet (by omega) (by omega),zie (by omega) (by omega),zet (by omega) (by omega)]
 simp only [Option.bind_some,zaf]
 rw [if_pos (by omega)]
 by_cases h1:k≤varsF s - 1
 ·rw [if_pos (by omega),if_pos h1,at_in' hi zN,Option.bind_some,l13At_in o1 (by omega)]
  rfl
 ·rw [if_neg (by omega),if_neg h1]
  by_cases h2:k≤2 * varsF s - 1
  ·rw [if_pos (by omega),if_pos h2,at_in' hi zN,Option.bind_some,zet (by omega) (by omega),l13At_in o2 (by omega)]
   rfl
  ·rw [if_neg (by omega),if_neg h2]
   simp only [eqI,zaf]
   rw [if_pos (by omega),at_in' hi zN]
   rfl
def txtF (a:Int):ByteArray:=if 0≤a∧a≤2 then (⟨#[48,63,49]⟩:ByteArray).extract a.toNat (a+1).toNat else ⟨#[]⟩
theorem spec_txt (a:Int):zdh a=some (txtF a):=by
 unfold zdh txtF zba
 rw [zdk]
 simp only [Option.bind_some,zaf]
 by_cases h:0≤a∧a≤2
 ·rw [if_pos h,if_pos h,zam (by omega) (by omega)]
  unfold sub?
  rw [if_pos ⟨h.1,by omega,by show a+1≤3;omega⟩]
  rfl
 ·rw [if_neg h,if_neg h]
theorem txt_size (a:Int):(txtF a).size≤1:=by
 unfold txtF
 split
 ·rw [ByteArray.size_extract]
  have:(⟨#[48,63,49]⟩:ByteArray).size=3:=rfl
  omega
 ·exact Nat.zero_le _
def nameK (s:TStructure) (i:Int):Nat→ByteArray
 | 0=>⟨#[]⟩
 | k+1=>nameK s i k ++ txtF (predV s k i)
theorem zjr (s:TStructure) (i:Int):∀ k,(nameK s i k).size≤k
 | 0=>Nat.le_refl _
 | k+1=>by
  rw [nameK,ByteArray.size_append]
  have:=zjr s i k
  have:=txt_size (predV s k i)
  omega
def nameF (s:TStructure) (i:Int):ByteArray:=nameK s i (2 * varsF s+1).toNat
theorem spec_name {s:TStructure} (hs:okB s) {i:Int} (hi:0≤i∧i < (s.nodes.length:Int)):zeb s i=some (nameF s i):=by
 have hv:=hs.v
 have hn:=hs.n
 have hz:=hs.z
 have hcp:zbi s=some (2 * varsF s+1):=by
  unfold zbi
  simp only [eqI,zaf]
  rw [if_neg (by omega),zkz,Option.bind_some,zie (by omega) (by omega),zam (by omega) (by omega)]
 unfold zeb
 rw [zdk,zet (by omega) (by omega)]
 simp only [Option.bind_some,zaf,hcp]
 rw [if_pos (by omega)]
 refine Tot.eq (Tot.bind (P:=(· = nameF s i)) (Tot.loop (fun k q=>q=(nameK s i k,(k:Int))) (2 * varsF s+1).toNat rfl fun k q hI hk=>?_) fun r hr=>by subst hr;exact Tot.ret rfl)
 subst hI
 by_cases hlt:(k:Int) < 2 * varsF s+1
 ·simp only [ltI,zaf]
  rw [if_pos hlt,spec_pred hs hi (by omega),Option.bind_some,spec_txt,Option.bind_some]
  have h1:=zjr s i k
  have h2:=txt_size (predV s k i)
  unfold catS
  rw [if_pos (by omega),Option.bind_some,zam (by omega) (by omega)]
  exact Tot.ret ⟨by omega,rfl⟩
 ·simp only [ltI,zaf]
  rw [if_neg hlt]
  have:k=(2 * varsF s+1).toNat:=by omega
  subst this
  exact Tot.ret rfl
theorem name_size {s:TStructure} (hs:okB s) (i:Int):(nameF s i).size≤9:=by
 have:=zjr s i (2 * varsF s+1).toNat
 have:=hs.v
 unfold nameF
 omega
def namesL (s:TStructure) (k:Nat):List ByteArray:=(List.range k).map fun i:Nat=>nameF s (i:Int)
theorem namesT_L {s:TStructure} {nm:TStructure→Int→Option ByteArray} (h:∀ i:Nat,i < s.nodes.length→nm s (i:Int)=some (nameF s (i:Int))):∀ k,k≤s.nodes.length→namesT (nm s) k=some (namesL s k)
 | 0,_=>rfl
 | k+1,hk=>by
  rw [namesT,namesT_L h k (by omega),Option.bind_some,h k (by omega),Option.bind_some]
  unfold namesL
  rw [List.range_succ,List.map_append]
  rfl
theorem names_few {s:TStructure} (hs:okB s):few (namesL s s.nodes.length)=true:=by
 unfold few
 rw [Bool.and_eq_true,List.all_eq_true]
 have hn:=hs.n
 refine ⟨by simp [namesL];omega,fun x hx=>?_⟩
 unfold namesL at hx
 obtain ⟨i,_,rfl⟩:=List.mem_map.1 hx
 have:=name_size hs (i:Int)
 simp
 omega
open Wf (wf)
open Sm (sm lg)

def joinV (a b:Int):Int:=if a=b then (if 0≤a∧a≤2 then a else 1) else 1
theorem spec_join (a b:Int):zfb a b=some (joinV a b):=by
 unfold zfb joinV zba
 rw [zdk]
 simp only [Option.bind_some,zaf,neI,zdf]
 by_cases h:a=b
 ·rw [if_pos h,if_pos h]
  by_cases h1:0≤a∧a≤2
  ·rw [if_pos h1,if_pos h1]
  ·rw [if_neg h1,if_neg h1]
 ·rw [if_neg h,if_neg h]
def rowG (s:TStructure) (i:Int) (b:List Int) (acc:Int):Int:=b.foldl (fun acc j=>joinV acc (nextV s i j)) acc
def nextG (s:TStructure) (a b:List Int):Int:=a.foldl (fun acc i=>rowG s i b acc) (nextV s (a.getD 0 0) (b.getD 0 0))
theorem zpg {α:Type} {xs:List α} (h:xs≠[]) (d:α):at? xs 0=some (xs.getD 0 d):=by
 have:=List.length_pos_iff.2 h
 exact at_in' (by omega) d
theorem spec_next (s:TStructure) {a b:List Int} (hs:small s.nodes.length) (ha:small a.length) (hb:small b.length) (a0:a≠[]) (b0:b≠[]):zdt s a b=some (nextG s a b):=by
 unfold small at ha hb
 unfold zdt
 rw [zpg a0 0,zpg b0 0]
 simp only [Option.bind_some,zfa s _ _ hs]
 refine Tot.eq (Tot.bind (P:=(· = nextG s a b)) (Tot.loop (fun i q=>q=((a.take i).foldl (fun acc i=>rowG s i b acc) (nextV s (a.getD 0 0) (b.getD 0 0)),(i:Int))) a.length rfl fun i q hI hi=>?_) fun r hr=>by subst hr;exact Tot.ret rfl)
 subst hI
 by_cases hlt:i < a.length
 ·simp only [ltI,zaf]
  rw [if_pos (by omega)]
  generalize hq:(a.take i).foldl (fun acc i=>rowG s i b acc) (nextV s (a.getD 0 0) (b.getD 0 0))=acc
  refine Tot.bind (P:=(· = rowG s a[i] b acc)) (Tot.loop (fun j q=>q=(rowG s a[i] (b.take j) acc,(j:Int))) b.length rfl fun j q hJ hj=>?_) fun r hr=>?_
  ·subst hJ
   by_cases hjl:j < b.length
   ·simp only [zei,List.getElem?_eq_getElem hlt,List.getElem?_eq_getElem hjl,Option.bind_some,spec_join]
    rw [if_pos (by omega),zam (by omega) (by omega)]
    exact Tot.ret ⟨hjl,by rw [zen hjl];unfold rowG;rw [List.foldl_append];rfl⟩
   ·simp only
    rw [if_neg (by omega)]
    have:j=b.length:=by omega
    subst this
    exact Tot.ret (by show _=_;rw [List.take_length])
  ·subst hr
   rw [zam (by omega) (by omega)]
   exact Tot.ret ⟨hlt,by rw [zen hlt,List.foldl_append,hq];rfl⟩
 ·simp only [ltI,zaf]
  rw [if_neg (by omega)]
  have:i=a.length:=by omega
  subst this
  exact Tot.ret (by show _=_;rw [List.take_length];rfl)
def manyG (s:TStructure) (g:List Int):Int:=if 1 < g.length then 1 else if (s.nodes.getD (g.getD 0 0).toNat zN).many≠0 then 1 else (s.nodes.getD (g.getD 0 0).toNat zN).many
def nodeG (s:TStructure) (g:List Int):TNode:={ s.nodes.getD (g.getD 0 0).toNat zN with many:=manyG s g }
def inG (s:TStructure) (g:List Int):Prop:=∀ z∈g,0≤z∧z < (s.nodes.length:Int)
theorem zhu {α:Type} {xs:List α} {i:Nat} (h:i < xs.length) (d:α):xs.getD i d∈xs:=by simp [List.getD,h]
theorem spec_nodeB {s:TStructure} (hs:shortS s) {g:List Int} (hg:small g.length) (g0:g≠[]) (hin:inG s g):zds s g=some (nodeG s g):=by
 unfold small at hg
 have hp:=List.length_pos_iff.2 g0
 have h0:=hin _ (zhu hp 0)
 unfold zds
 rw [zpg g0 0,Option.bind_some,at_in' h0 zN,Option.bind_some,copyNode _ (hs.e _ (zis h0)),Option.bind_some]
 refine Tot.eq (Tot.bind (P:=(· = manyG s g)) (Tot.loop (fun i q=>q=((i:Int),if i=0 then (s.nodes.getD (g.getD 0 0).toNat zN).many else manyG s g)) g.length rfl fun i q hI hi=>?_) fun r hr=>by subst hr;exact Tot.ret rfl)
 subst hI
 by_cases hlt:i < g.length
 ·have hz:=hin _ (zhu hlt 0)
  simp only [ltI,zaf,zgf hlt 0,Option.bind_some,at_in' hz zN,neI,zdf]
  rw [if_pos (by omega),zam (by omega) (by omega)]
  by_cases h1:1 < g.length
  ·rw [if_pos (by omega)]
   exact Tot.ret ⟨hlt,by rw [if_neg (by omega)];unfold manyG;rw [if_pos h1];rfl⟩
  ·rw [if_neg (by omega)]
   have:i=0:=by omega
   subst this
   by_cases h2:(s.nodes.getD (g.getD 0 0).toNat zN).many=0
   ·rw [if_pos h2]
    exact Tot.ret ⟨hlt,by rw [if_pos rfl,if_neg (by omega)];unfold manyG;rw [if_neg h1,if_neg (fun h=>h h2)];rfl⟩
   ·rw [if_neg h2]
    exact Tot.ret ⟨hlt,by rw [if_neg (by omega)];unfold manyG;rw [if_neg h1,if_pos h2];rfl⟩
 ·simp only [ltI,zaf]
  rw [if_neg (by omega)]
  exact Tot.ret (by show _=_;rw [if_neg (by omega)])
open Wf (wf)
open Sm (sm lg)

def gsF (s:TStructure):List (List Int):=grpO (namesL s s.nodes.length)
def blurG (s:TStructure) (gs:List (List Int)):TStructure:=⟨gs.map (nodeG s),gs.flatMap fun a=>gs.map (nextG s a)⟩
def blurF (s:TStructure):TStructure:=if s.nodes.length=0 then ⟨[],[]⟩ else if isStrB (varsF s) s=true then blurG s (gsF s) else s
structure Grp (s:TStructure) (gs:List (List Int)):Prop where
 l:gs.length≤10
 e:∀ g∈gs,g≠[]∧g.length≤10∧inG s g
theorem namesL_len (s:TStructure) (k:Nat):(namesL s k).length=k:=by simp [namesL]
theorem grp_ok {s:TStructure} (h:okB s):Grp s (gsF s):=by
 have hn:=h.n
 have hl:=namesL_len s s.nodes.length
 refine ⟨?_,fun g hg=>?_⟩
 ·unfold gsF grpO
  rw [List.length_map,(zfx _).length_eq]
  have:=zmm (namesL s s.nodes.length)
  omega
 ·unfold gsF grpO at hg
  obtain ⟨k,hk,rfl⟩:=List.mem_map.1 hg
  have hm:=(zhj _ _).1 hk
  refine ⟨fun h0=>posN_nil.1 h0 hm,?_,fun z hz=>?_⟩
  ·have:=zid k (namesL s s.nodes.length) 0
   omega
  ·have:=znh hz
   omega
theorem zoi {s:TStructure} (hs:shortS s) {gs:List (List Int)} (hG:Grp s gs):Tot ((iter (ρ:=(List TNode) × (List Int)) (fun s_12:Int × (List TNode) × (List Int) =>
        cond (ltI s_12.1 (gs.length:Int))
         ((at? gs s_12.1).bind fun e_20 =>
          (zds s e_20).bind fun y_25 =>
           (room (s_12.2.1.length + [y_25].length) 64).bind fun _ =>
            (iter (ρ:=(List Int)) (fun s_30:Int × (List Int) =>
             cond (ltI s_30.1 (gs.length:Int))
              ((at? gs s_12.1).bind fun _ =>
               (at? gs s_30.1).bind fun e_43 =>
                (zdt s e_20 e_43).bind fun y_48 =>
                 (room (s_30.2.length + [y_48].length) 8).bind fun _ =>
                  some (.inl (addI s_30.1 1,s_30.2 ++ [y_48])))
              (some (.inr s_30.2))) (0,s_12.2.2)).bind fun r_53 =>
             some (.inl (addI s_12.1 1,s_12.2.1 ++ [y_25],r_53)))
         (some (.inr (s_12.2.1,s_12.2.2)))) (0,[],[])).bind fun r_58 =>
       some (⟨r_58.1,r_58.2⟩:TStructure)) (· = blurG s gs):=by
 have hl:=hG.l
 have hrow:∀ m,((gs.take m).flatMap fun a=>gs.map (nextG s a)).length=(gs.take m).length * gs.length:=fun m=>zfk _ _ _ (fun x _=>by simp)
 refine Tot.bind (P:=(· = (gs.map (nodeG s),gs.flatMap fun a=>gs.map (nextG s a)))) (Tot.loop (fun i q=>q=((i:Int),(gs.take i).map (nodeG s),(gs.take i).flatMap fun a=>gs.map (nextG s a))) gs.length rfl fun i q hI hi=>?_) fun r hr=>by subst hr;exact Tot.ret rfl
 subst hI
 by_cases hlt:i < gs.length
 ·obtain ⟨g0,g1,g2⟩:=hG.e _ (List.getElem_mem hlt)
  have hi10:i * gs.length≤10 * 10:=Nat.mul_le_mul (by omega) (by omega)
  have hrl:((gs.take i).flatMap fun a=>gs.map (nextG s a)).length=i * gs.length:=by rw [hrow,List.length_take,Nat.min_eq_left (by omega)]
  simp only [ltI,zaf,zei,List.getElem?_eq_getElem hlt,Option.bind_some,spec_nodeB hs (show small gs[i].length by unfold small;omega) g0 g2,List.length_map,List.length_take,List.length_singleton]
  rw [if_pos (by omega),zal (by omega) (by omega),Option.bind_some]
  refine Tot.bind (P:=(· = (gs.take (i+1)).flatMap fun a=>gs.map (nextG s a))) (Tot.loop (fun j q=>q=((j:Int),((gs.take i).flatMap fun a=>gs.map (nextG s a)) ++ (gs.take j).map (nextG s gs[i]))) gs.length (by simp) fun j q hJ hj=>?_) fun r hr=>?_
  ·subst hJ
   by_cases hjl:j < gs.length
   ·obtain ⟨b0,b1,b2⟩:=hG.e _ (List.getElem_mem hjl)
    simp only [zei,List.getElem?_eq_getElem hjl,Option.bind_some,spec_next s hs.n (show small gs[i].length by unfold small;omega) (show small gs[j].length by unfold small;omega) g0 b0,List.length_append,hrl,List.length_map,List.length_take,List.length_singleton]
    rw [if_pos (by omega),zal (by omega) (by omega),Option.bind_some,zam (by omega) (by omega)]
    exact Tot.ret ⟨hjl,by rw [zen hjl,List.map_append,List.append_assoc];rfl⟩
   ·simp only
    rw [if_neg (by omega)]
    have:j=gs.length:=by omega
    subst this
    exact Tot.ret (by show _=_;rw [List.take_length,zen hlt,List.flatMap_append];simp)
  ·subst hr
   rw [zam (by omega) (by omega)]
   exact Tot.ret ⟨hlt,by rw [zen hlt,List.map_append];rfl⟩
 ·simp only [ltI,zaf]
  rw [if_neg (by omega)]
  have:i=gs.length:=by omega
  subst this
  exact Tot.ret (by show _=_;rw [List.take_length])
theorem spec_blur {s:TStructure} (hs:shortS s):zfo s=some (blurF s):=by
 have hn:=hs.n
 unfold small at hn
 unfold zfo blurF
 simp only [eqI,zaf,zkz,Option.bind_some,zey _ s hs]
 by_cases h0:s.nodes.length=0
 ·rw [if_pos (by omega),if_pos h0]
 ·rw [if_neg (by omega),if_neg h0]
  cases hc:isStrB (varsF s) s with
  | false =>
   rw [cond_false,zgr s hs,if_neg (by simp)]
   rfl
  | true =>
   have hb:=okB_of hs hc h0
   have hg:zeu s=some (gsF s):=by
    unfold zeu groupsT
    rw [namesT_L (fun i hi=>spec_name hb (by omega)) _ (Nat.le_refl _),Option.bind_some,if_pos (names_few hb)]
    rfl
   rw [cond_true,if_pos rfl,hg,Option.bind_some]
   exact (zoi hs (grp_ok hb)).eq
open Wf (wf)
open Sm (sm lg)

end Go.Ev

