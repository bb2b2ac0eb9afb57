import Derived.Test.YtfcfpdcjepobpaaGreatEvA4
set_option linter.unusedSimpArgs false
set_option linter.unusedVariables false
set_option linter.unnecessarySimpa false
noncomputable section
namespace Go.Ev

def strip:List Nat→List Nat→Option (List Nat)
 | [],q=>some q
 | x :: p,y :: q=>if x=y then strip p q else none
 | _ :: _,[]=>none

theorem zmr:∀ (p r:List Nat),strip p (p ++ r)=some r
 | [],r=>rfl
 | x :: p,r=>by simp [strip,zmr p r]

structure Rn (G G':Gh) (o:Ow) (p:List Nat) (o':Ow) (p':List Nat):Prop where
 tag:∀ b q,G.own b=some (.at o (p ++ q))→G'.own b=some (.at o' (p' ++ q))∧G'.use b=G.use b
 nil:∀ b,G.own b=none→G'.own b=none∧G.use b≤G'.use b
 live:∀ k,G.live k→G'.live k∧G'.β k=G.β k∧G'.cap k=G.cap k

theorem Rn.sub {G G':Gh} {o:Ow} {p:List Nat} {o':Ow} {p':List Nat} (h:Rn G G' o p o' p') (i:List Nat):Rn G G' o (p ++ i) o' (p' ++ i) :=
 ⟨fun b q hq=>by rw [List.append_assoc] at hq ⊢; exact h.tag b (i ++ q) hq,h.nil,h.live⟩

mutual
theorem Rn.rd {w:World} {G G':Gh} {o o':Ow}:∀ {d:D} {m:Md} {p p':List Nat} {v:Value},Rn G G' o p o' p'→m≠.bor→RD w G o m p d v→RD w G' o' m p' d v
 | .sc x,m,p,p',v,_,_,hr=>by rw [RD] at hr ⊢; exact hr
 | .sl n cs,m,p,p',v,h,hm,hr=>by
  rw [RD] at hr ⊢
  rcases hr with hr | ⟨h1,h2,b,off,cap,hv,hc,hn,hs⟩
  ·exact .inl hr
  ·refine .inr ⟨h1,h2,b,off,cap,hv,hc,?_,Rn.rds h (by cases m <;> simp_all [Md.elem]) hs⟩
   cases m with
   | own=>exact ⟨by simpa using (h.tag b [] (by simpa using hn.1)).1,by rw [(h.tag b [] (by simpa using hn.1)).2];exact hn.2.1,hn.2.2⟩
   | top=>exact ⟨by simpa using (h.tag b [] (by simpa using hn.1)).1,by rw [(h.tag b [] (by simpa using hn.1)).2];exact hn.2.1,hn.2.2⟩
   | shr=>exact ⟨(h.nil b hn.1).1,Nat.le_trans hn.2 (h.nil b hn.1).2⟩
   | bor=>exact absurd rfl hm
theorem Rn.rds {w:World} {G G':Gh} {o o':Ow}:∀ {cs:List D} {m:Md} {p p':List Nat} {b off i:Nat},Rn G G' o p o' p'→m≠.bor→RDs w G o m p b off i cs→RDs w G' o' m p' b off i cs
 | [],m,p,p',b,off,i,_,_,_=>by rw [RDs];trivial
 | d :: ds,m,p,p',b,off,i,h,hm,hr=>by
  rw [RDs] at hr ⊢
  obtain ⟨⟨v,hv,hd⟩,hr⟩:=hr
  exact ⟨⟨v,hv,Rn.rd (h.sub [i]) hm hd⟩,Rn.rds h hm hr⟩
end

theorem Rn.rc {w:World} {G G':Gh} {o:Ow} {p:List Nat} {o':Ow} {p':List Nat} (h:Rn G G' o p o' p') {c:C} {v:Value} (hr:RC w G o p c v):RC w G' o' p' c.killB v:=by
 cases c with
 | s x=>exact hr
 | l m n cs =>
  cases m with
  | own=>exact h.rd (by simp) hr
  | top=>exact h.rd (by simp) hr
  | shr=>exact h.rd (by simp) hr
  | bor=>exact trivial
 | ep m cs pos=>exact trivial
 | ptr k off=>exact ⟨(h.live k hr.1).1,by rw [(h.live k hr.1).2.1];exact hr.2⟩
 | fn f caps =>
  obtain ⟨hl,vs,hv,hvs⟩:=hr
  refine ⟨fun c hc=>(h.live c.1 (hl c hc)).1,vs,hv,?_⟩
  rw [hvs]
  exact List.map_congr_left fun c hc=>by rw [(h.live c.1 (hl c hc)).2.1]
 | bs k n sz =>
  obtain ⟨hl,hz,ba,cap,hv,h1,h2⟩:=hr
  obtain ⟨a1,a2,a3⟩:=h.live k hl
  exact ⟨a1,hz,ba,cap,hv,h1,by rw [a2,a3];exact h2⟩
 | mp es =>
  obtain ⟨b,arr,clock,hv,hn,hh,hs⟩:=hr
  refine ⟨b,arr,clock,hv,(h.nil b hn).1,hh,fun s n cs hl=>?_⟩
  obtain ⟨i,x,h1,h2⟩:=hs s n cs hl
  exact ⟨i,x,h1,RD_shr h.nil h2⟩
 | dead=>exact trivial

theorem zgt {w:World} {G G':Gh} {o:Ow} {p:List Nat} {o':Ow} {p':List Nat} {cs:List C} {i:Nat} {vs:List Value} (h:∀ j,Rn G G' o (p ++ [j]) o' (p' ++ [j])) (hr:RCs w G o p i cs vs) :
 RCs w G' o' p' i (cs.map C.killB) vs:=by
 refine ⟨by rw [hr.1,List.length_map],fun j c hj=>?_⟩
 rw [List.getElem?_map] at hj
 cases hc:cs[j]? with
 | none=>rw [hc] at hj;cases hj
 | some c0 =>
  rw [hc] at hj
  obtain rfl:=Option.some.inj hj
  obtain ⟨x,hx,hrc⟩:=hr.2 j c0 hc
  exact ⟨x,hx,(h (i+j)).rc hrc⟩

theorem Rn.ra {w:World} {G G':Gh} {o o':Ow} (h:Rn G G' o [] o' []) {a:AV} {v:Value} (hr:RA w G o a v):RA w G' o' a.killB v:=by
 cases a with
 | one c=>exact h.rc hr
 | ag cs =>
  obtain ⟨vs,hv,hs⟩:=hr
  exact ⟨vs,hv,zgt (fun j=>h.sub [j]) hs⟩
 | tu l =>
  obtain ⟨vs,hv,hz,hs⟩:=hr
  refine ⟨vs,hv,by rw [hz,List.length_map],fun i b cs hi=>?_⟩
  rw [List.getElem?_map] at hi
  cases hl:l[i]? with
  | none=>rw [hl] at hi;cases hi
  | some bc =>
   rw [hl] at hi
   obtain ⟨b0,cs0⟩:=bc
   simp only [Option.map_some,Option.some.injEq,Prod.mk.injEq] at hi
   obtain ⟨rfl,rfl⟩:=hi
   obtain ⟨x,hx,hc⟩:=hs i b0 cs0 hl
   refine ⟨x,hx,?_⟩
   cases b0 with
   | true =>
    obtain ⟨xs,hxs,hr⟩:=hc
    exact ⟨xs,hxs,zgt (fun j=>by simpa using h.sub ([i] ++ [j])) hr⟩
   | false=>exact zgt (fun j=>by simpa using h.sub ([i] ++ [j])) hc

def Loc.ow (d:Nat):Loc→Ow
 | .env t _=>.slot d t
 | .mem k _=>.cell k
def Loc.path (σ:St):Loc→List Nat
 | .env t i=>match σ.env t with
  | .ag _=>[i]
  | _=>[]
 | .mem _ off=>[off]

def Loc.Val (G:Gh) (σ:St) (tm:Array Value) (w:World):Loc→Value→Prop
 | .env t i,v=>match σ.env t with
  | .ag _=>∃ vs,tm.getD t undef=.agg vs∧vs.toList[i]?=some v
  | _=>v=tm.getD t undef
 | .mem k off,v=>∃ arr e,w.heap[G.β k]?=some (.cells arr e (0,0))∧arr.toList[off]?=some v

theorem Loc.Val.uniq {G:Gh} {σ:St} {tm:Array Value} {w:World} {l:Loc} {v v':Value} (h:l.Val G σ tm w v) (h':l.Val G σ tm w v'):v=v':=by
 cases l with
 | env t i =>
  simp only [Loc.Val] at h h'
  cases he:σ.env t with
  | ag cs =>
   rw [he] at h h'
   obtain ⟨vs,h1,h2⟩:=h
   obtain ⟨vs',h1',h2'⟩:=h'
   rw [h1] at h1'
   cases h1'
   rw [h2] at h2'
   exact Option.some.inj h2'
  | one c=>rw [he] at h h';exact h.trans h'.symm
  | tu c=>rw [he] at h h';exact h.trans h'.symm
 | mem k off =>
  obtain ⟨arr,e,h1,h2⟩:=h
  obtain ⟨arr',e',h1',h2'⟩:=h'
  rw [h1] at h1'
  cases h1'
  rw [h2] at h2'
  exact Option.some.inj h2'

theorem zkb {α:Type} {l:List α} {n j:Nat} {x:α} (h:(l.take n)[j]?=some x):l[j]?=some x:=by
 rw [List.getElem?_take] at h
 split at h
 ·exact h
 ·cases h

theorem Loc.read {d N:Nat} {G:Gh} {σ:St} {tm:Array Value} {w:World} (h:Sim d N G σ tm w) {l:Loc} {c:C} (hc:l.get σ=some c):∃ v,l.Val G σ tm w v∧RC w G (l.ow d) (l.path σ) c v:=by
 cases l with
 | env t i =>
  have hr:=h.env t
  simp only [Loc.get] at hc
  simp only [Loc.path,Loc.ow,Loc.Val]
  cases he:σ.env t with
  | one c0 =>
   rw [he] at hc hr
   simp only at hc
   split at hc
   ·cases hc;exact ⟨_,rfl,hr⟩
   ·cases hc
  | ag cs =>
   rw [he] at hc hr
   obtain ⟨vs,hv,hs⟩:=hr
   obtain ⟨x,hx,hrc⟩:=hs.2 i c hc
   exact ⟨x,⟨vs,hv,hx⟩,by simpa using hrc⟩
  | tu l=>rw [he] at hc;cases hc
 | mem k off =>
  simp only [Loc.get] at hc
  rw [Option.bind_eq_some_iff] at hc
  obtain ⟨cs,hcs,hc⟩:=hc
  obtain ⟨arr,e,h1,_,_,hr⟩:=h.mem k cs hcs (by rintro rfl;simp at hc)
  obtain ⟨x,hx,hrc⟩:=hr.2 off c hc
  exact ⟨x,⟨arr,e,h1,zkb hx⟩,by show RC w G (.cell k) [off] c x;simpa using hrc⟩

theorem Sim.place {d N:Nat} {G G':Gh} {σ σ1:St} {tm:Array Value} {w:World} (h:Sim d N G σ tm w) {l:Loc} {c0 c:C} (hc0:l.get σ=some c0) (kE:C→C)
 (hE1:∀ t,σ1.env t=match σ.env t with | .one x=>.one (kE x) | .ag xs=>.ag (xs.map kE) | .tu vs=>.tu (vs.map fun (b,xs)=>(b,xs.map kE)))
 (hM1:∀ k cs,σ1.mem k=some cs→∃ cs0,σ.mem k=some cs0∧cs=cs0.map kE)
 (hread:∀ v,l.Val G σ tm w v→RC w G' (l.ow d) (l.path σ) c v)
 (hkeep:∀ o p x v,(∀ k,o=.cell k→(σ1.mem k).isSome=true)→(∀ q,o=l.ow d→strip (l.path σ) (p ++ q)=none)→RC w G o p x v→RC w G' o p (kE x) v) :
 (∀ t,RA w G' (.slot d t) ((l.set σ1 c).env t) (tm.getD t undef)) ∧
 ∀ k cs,(l.set σ1 c).mem k=some cs→cs≠[]→∃ arr e cs0,σ.mem k=some cs0∧cs.length=cs0.length∧w.heap[G.β k]?=some (.cells arr e (0,0))∧G.own (G.β k)=some (.box k)∧arr.size=G.cap k∧RCs w G' (.cell k) [] 0 cs (arr.toList.take cs.length):=by
 have hcells:∀ o p i xs vs,(∀ k,o=.cell k→(σ1.mem k).isSome=true)→(∀ j q,o=l.ow d→strip (l.path σ) ((p ++ [i+j]) ++ q)=none)→RCs w G o p i xs vs→RCs w G' o p i (xs.map kE) vs:=by
  intro o p i xs vs hk0 hn hr
  refine ⟨by rw [hr.1,List.length_map],fun j c hj=>?_⟩
  rw [List.getElem?_map] at hj
  cases hx:xs[j]? with
  | none=>rw [hx] at hj;cases hj
  | some x =>
   rw [hx] at hj
   cases hj
   obtain ⟨y,hy,hrc⟩:=hr.2 j x hx
   exact ⟨y,hy,hkeep _ _ _ _ hk0 (hn j) hrc⟩
 have hav:∀ t,(∀ p q,l.ow d=.slot d t→strip (l.path σ) (p ++ q)=none)→RA w G' (.slot d t) (σ1.env t) (tm.getD t undef):=by
  intro t hn
  have hr:=h.env t
  rw [hE1 t]
  cases he:σ.env t with
  | one x=>rw [he] at hr;exact hkeep _ _ _ _ (fun _ h=>by cases h) (fun q hq=>hn _ q hq.symm) hr
  | ag xs =>
   rw [he] at hr
   obtain ⟨vs,hv,hs⟩:=hr
   exact ⟨vs,hv,hcells _ _ _ _ _ (fun _ h=>by cases h) (fun j q hq=>hn _ q hq.symm) hs⟩
  | tu vl =>
   rw [he] at hr
   obtain ⟨vs,hv,hz,hs⟩:=hr
   refine ⟨vs,hv,by rw [hz,List.length_map],fun i b cs hi=>?_⟩
   rw [List.getElem?_map] at hi
   cases hl:vl[i]? with
   | none=>rw [hl] at hi;cases hi
   | some bc =>
    rw [hl] at hi
    obtain ⟨b0,cs0⟩:=bc
    simp only [Option.map_some,Option.some.injEq,Prod.mk.injEq] at hi
    obtain ⟨rfl,rfl⟩:=hi
    obtain ⟨x,hx,hc⟩:=hs i b0 cs0 hl
    refine ⟨x,hx,?_⟩
    cases b0 with
    | true =>
     obtain ⟨xs,hxs,hr⟩:=hc
     exact ⟨xs,hxs,hcells _ _ _ _ _ (fun _ h=>by cases h) (fun j q hq=>hn _ q hq.symm) hr⟩
    | false=>exact hcells _ _ _ _ _ (fun _ h=>by cases h) (fun j q hq=>hn _ q hq.symm) hc
 have hmem:∀ k,(∀ p q,l.ow d=.cell k→strip (l.path σ) (p ++ q)=none)→∀ cs,σ1.mem k=some cs→cs≠[]→∃ arr e cs0,σ.mem k=some cs0∧cs.length=cs0.length∧w.heap[G.β k]?=some (.cells arr e (0,0))∧G.own (G.β k)=some (.box k)∧arr.size=G.cap k∧RCs w G' (.cell k) [] 0 cs (arr.toList.take cs.length):=by
  intro k hn cs hk hn2
  have hk0:(σ1.mem k).isSome=true:=by rw [hk];rfl
  obtain ⟨cs0,h0,rfl⟩:=hM1 k cs hk
  obtain ⟨arr,e,h1,h2,h3,h4⟩:=h.mem k cs0 h0 (by rintro rfl;exact hn2 rfl)
  refine ⟨arr,e,cs0,h0,by simp,h1,h2,h3,?_⟩
  rw [List.length_map]
  exact hcells _ _ _ _ _ (fun _ h=>by cases h;exact hk0) (fun j q hq=>hn _ q hq.symm) h4
 cases l with
 | env t i =>
  have hmem':∀ k cs,σ1.mem k=some cs→_:=fun k cs hk=>hmem k (fun p q hq=>by cases hq) cs hk
  have hother:∀ t2,t2≠t→RA w G' (.slot d t2) (σ1.env t2) (tm.getD t2 undef):=fun t2 ht=>hav t2 fun p q hq=>by
   simp only [Loc.ow,Ow.slot.injEq,true_and] at hq;exact absurd hq.symm ht
  have hr:=h.env t
  simp only [Loc.get] at hc0
  cases he:σ.env t with
  | one x =>
   rw [he] at hc0 hr
   simp only at hc0
   split at hc0
   ·cases hc0
    have hset:(Loc.env t i).set σ1 c={ σ1 with env:=upd σ1.env t (.one c) }:=by
     simp only [Loc.set];rw [hE1 t,he]
    rw [hset]
    refine ⟨fun t2=>?_,hmem'⟩
    show RA w G' _ (upd σ1.env t (.one c) t2) _
    by_cases ht:t2=t
    ·subst ht
     simp only [upd,if_true]
     have hp:(Loc.env t2 i).path σ=[]:=by simp only [Loc.path,he]
     have:=hread (tm.getD t2 undef) (by simp only [Loc.Val,he])
     rw [hp] at this
     exact this
    ·simp only [upd,ht,if_false];exact hother t2 ht
   ·cases hc0
  | ag xs =>
   rw [he] at hc0 hr
   simp only at hc0
   have hset:(Loc.env t i).set σ1 c={ σ1 with env:=upd σ1.env t (.ag ((xs.map kE).set i c)) }:=by
    simp only [Loc.set];rw [hE1 t,he]
   have hp:(Loc.env t i).path σ=[i]:=by simp only [Loc.path,he]
   rw [hset]
   refine ⟨fun t2=>?_,hmem'⟩
   show RA w G' _ (upd σ1.env t _ t2) _
   by_cases ht:t2=t
   ·subst ht
    simp only [upd,if_true]
    obtain ⟨vs,hv,hl,hs⟩:=hr
    refine ⟨vs,hv,by rw [hl,List.length_set,List.length_map],fun j y hj=>?_⟩
    rw [List.getElem?_set] at hj
    by_cases hij:i=j
    ·subst hij
     simp only [if_true] at hj
     split at hj
     ·cases hj
      obtain ⟨z,hz,hrc⟩:=hs i c0 hc0
      refine ⟨z,hz,?_⟩
      have:=hread z (by simp only [Loc.Val,he];exact ⟨vs,hv,hz⟩)
      rw [hp] at this
      simpa [Loc.ow] using this
     ·cases hj
    ·simp only [hij,if_false,List.getElem?_map] at hj
     cases hx:xs[j]? with
     | none=>rw [hx] at hj;cases hj
     | some x =>
      rw [hx] at hj
      cases hj
      obtain ⟨z,hz,hrc⟩:=hs j x hx
      refine ⟨z,hz,hkeep _ _ _ _ (fun _ h=>by cases h) (fun q _=>?_) hrc⟩
      rw [hp]
      simp [strip,hij]
   ·simp only [upd,ht,if_false];exact hother t2 ht
  | tu vs=>rw [he] at hc0;cases hc0
 | mem k off =>
  simp only [Loc.get] at hc0
  rw [Option.bind_eq_some_iff] at hc0
  obtain ⟨cs0,hcs0,hc0⟩:=hc0
  have henv:∀ t,RA w G' (.slot d t) (σ1.env t) (tm.getD t undef):=fun t=>hav t fun p q hq=>by cases hq
  cases hm1:σ1.mem k with
  | none =>
   have hset:(Loc.mem k off).set σ1 c=σ1:=by simp only [Loc.set,hm1]
   rw [hset]
   refine ⟨henv,fun k2 cs hk2 hn2=>?_⟩
   by_cases hk:k2=k
   ·subst hk;rw [hm1] at hk2;cases hk2
   ·exact hmem k2 (fun p q hq=>by simp only [Loc.ow,Ow.cell.injEq] at hq;exact absurd hq.symm hk) cs hk2 hn2
  | some cs1 =>
   have hset:(Loc.mem k off).set σ1 c={ σ1 with mem:=upd σ1.mem k (some (cs1.set off c)) }:=by simp only [Loc.set,hm1]
   rw [hset]
   refine ⟨henv,fun k2 cs hk2 hn2=>?_⟩
   have hk2':upd σ1.mem k (some (cs1.set off c)) k2=some cs:=hk2
   by_cases hk:k2=k
   ·subst hk
    simp only [upd,if_true,Option.some.injEq] at hk2'
    subst hk2'
    obtain ⟨cs0',h0,rfl⟩:=hM1 k2 cs1 hm1
    rw [hcs0] at h0
    cases h0
    obtain ⟨arr,e,h1,h2,h3,h4⟩:=h.mem k2 cs0 hcs0 (by rintro rfl;exact hn2 rfl)
    refine ⟨arr,e,cs0,hcs0,by simp,h1,h2,h3,?_⟩
    rw [List.length_set,List.length_map]
    refine ⟨by rw [h4.1,List.length_set,List.length_map],fun j y hj=>?_⟩
    rw [List.getElem?_set] at hj
    by_cases hij:off=j
    ·subst hij
     simp only [if_true] at hj
     split at hj
     ·cases hj
      obtain ⟨z,hz,hrc⟩:=h4.2 off c0 hc0
      exact ⟨z,hz,by have:=hread z ⟨arr,e,h1,zkb hz⟩;simpa [Loc.ow,Loc.path] using this⟩
     ·cases hj
    ·simp only [hij,if_false,List.getElem?_map] at hj
     cases hx:cs0[j]? with
     | none=>rw [hx] at hj;cases hj
     | some x =>
      rw [hx] at hj
      cases hj
      obtain ⟨z,hz,hrc⟩:=h4.2 j x hx
      refine ⟨z,hz,hkeep _ _ _ _ (fun _ h=>by cases h;rw [hm1];rfl) (fun q _=>?_) hrc⟩
      simp [Loc.path,strip,hij]
   ·simp only [upd,hk,if_false] at hk2'
    exact hmem k2 (fun p q hq=>by simp only [Loc.ow,Ow.cell.injEq] at hq;exact absurd hq.symm hk) cs hk2' hn2

def thawT (oL:Ow) (pL:List Nat) (K:Key):Tag→Tag
 | .at o q=>if o=oL then (match strip pL q with | some []=>.foreign | some (j :: r)=>.at (.cell K) (j :: r) | none=>.at o q) else .at o q
 | t=>t

def thawG (G:Gh) (oL:Ow) (pL:List Nat) (K:Key) (b n:Nat):Gh :=
 {G with own:=fun x=>if x=b then some (.box K) else (G.own x).map (thawT oL pL K),β:=upd G.β K b,cap:=upd G.cap K n,live:=fun k=>k=K∨G.live k }

theorem thawT_box {oL:Ow} {pL:List Nat} {K k:Key} {t:Tag} (h:thawT oL pL K t=.box k):t=.box k:=by
 cases t with
 | foreign=>cases h
 | box k'=>exact h
 | «at» o q =>
  simp only [thawT] at h
  split at h
  ·split at h <;> cases h
  ·cases h

theorem thawT_cell {oL:Ow} {pL:List Nat} {K k:Key} {q:List Nat} {t:Tag} (h:thawT oL pL K t=.at (.cell k) q):k=K∨∃ q',t=.at (.cell k) q':=by
 cases t with
 | foreign=>cases h
 | box k'=>cases h
 | «at» o r =>
  simp only [thawT] at h
  split at h
  ·split at h
   ·cases h
   ·simp only [Tag.at.injEq,Ow.cell.injEq] at h;exact .inl h.1.symm
   ·simp only [Tag.at.injEq] at h;exact .inr ⟨r,by rw [h.1]⟩
  ·simp only [Tag.at.injEq] at h;exact .inr ⟨r,by rw [h.1]⟩

theorem thaw_ok {d N:Nat} {G:Gh} {σ:St} {tm:Array Value} {w:World} (h:Sim d N G σ tm w) {l:Loc} {m:Md} {n key sz:Nat} {cs:List D} (hl:l.get σ=some (.l m n cs)) (hne:cs≠[]) (hm:m=.own∨m=.top)
 (hown:l.own? d=true) (hK:σ.mem (d,key)=none) (hkK:key≠deepK) (hlen:cs.length=n * sz) (hsz:0 < sz) :
 ∃ G',Sim d N G' { l.set σ.killB (.bs (d,key) n sz) with mem:=upd (l.set σ.killB (.bs (d,key) n sz)).mem (d,key) (some (cs.map (C.ofD m.elem))) } tm w∧Frm d G w G' w:=by
 obtain ⟨v0,hval0,hv0⟩:=Loc.read h hl
 have hr0:RD w G (l.ow d) m (l.path σ) (.sl n cs) v0:=hv0
 rw [RD] at hr0
 rcases hr0 with ⟨h0,_⟩|⟨_,hn0,b,off,cap,hv,hcap,hnode,hs⟩
 ·exact absurd h0 hne
 have hnode':G.own b=some (.at (l.ow d) (l.path σ))∧off+cs.length=G.use b∧off=0∧∃ arr e,w.heap[b]?=some (.cells arr e (0,0))∧∀ sz,cs.length=n * sz→off+cap * sz≤arr.size:=by
  rcases hm with rfl | rfl <;> exact hnode
 obtain ⟨hob,huse,rfl,arr,e,harr,hroom⟩:=hnode'
 have hdep:(l.ow d).dep d=d:=by
  cases l with
  | env t i=>rfl
  | mem k off =>
   show k.1=d
   simpa [Loc.own?] using hown
 have hage:d≤G.age b:=by have:=h.aged b _ hob;rw [show (Tag.at (l.ow d) (l.path σ)).dep d=(l.ow d).dep d from rfl,hdep] at this;exact this
 have hbl:b < w.heap.size:=h.wf b _ hob
 have hnl:¬ G.live (d,key):=by rw [h.live,hK];simp
 have hlive:∀ k,G.live k→(thawG G (l.ow d) (l.path σ) (d,key) b arr.size).live k∧(thawG G (l.ow d) (l.path σ) (d,key) b arr.size).β k=G.β k∧(thawG G (l.ow d) (l.path σ) (d,key) b arr.size).cap k=G.cap k:=by
  intro k hk
  have hkn:k≠(d,key):=fun e=>hnl (e ▸ hk)
  exact ⟨.inr hk,by simp [thawG,upd,hkn],by simp [thawG,upd,hkn]⟩
 have hnil:∀ x,G.own x=none→(thawG G (l.ow d) (l.path σ) (d,key) b arr.size).own x=none∧G.use x≤(thawG G (l.ow d) (l.path σ) (d,key) b arr.size).use x:=by
  intro x hx
  have hxb:x≠b:=by rintro rfl;rw [hob] at hx;cases hx
  exact ⟨by simp [thawG,hxb,hx],Nat.le_refl _⟩
 have hRn:∀ o p,(∀ q,o=l.ow d→strip (l.path σ) (p ++ q)=none)→Rn G (thawG G (l.ow d) (l.path σ) (d,key) b arr.size) o p o p:=by
  intro o p hno
  refine ⟨fun x q hx=>⟨?_,rfl⟩,hnil,hlive⟩
  have hxb:x≠b:=by
   rintro rfl
   rw [hob] at hx
   simp only [Option.some.injEq,Tag.at.injEq] at hx
   have:=hno q hx.1.symm
   rw [← hx.2] at this
   have h2:=zmr (l.path σ) []
   rw [List.append_nil,this] at h2
   cases h2
  simp only [thawG,hxb,if_false,hx,Option.map_some,thawT]
  by_cases ho:o=l.ow d
  ·rw [if_pos ho,hno q ho]
  ·rw [if_neg ho]
 have hRc:∀ j,Rn G (thawG G (l.ow d) (l.path σ) (d,key) b arr.size) (l.ow d) (l.path σ ++ [j]) (.cell (d,key)) [j]:=by
  intro j
  refine ⟨fun x q hx=>⟨?_,rfl⟩,hnil,hlive⟩
  have hxb:x≠b:=by
   rintro rfl
   rw [hob] at hx
   simp only [Option.some.injEq,Tag.at.injEq,true_and] at hx
   have:=congrArg List.length hx
   simp at this
  simp only [thawG,hxb,if_false,hx,Option.map_some,thawT,if_true]
  rw [List.append_assoc,zmr]
  try rfl
 have hbs:∀ v,l.Val G σ tm w v→RC w (thawG G (l.ow d) (l.path σ) (d,key) b arr.size) (l.ow d) (l.path σ) (.bs (d,key) n sz) v:=by
  intro v hv2
  have hvv:=hv2.uniq hval0
  subst hvv
  refine ⟨.inl rfl,hsz,_,cap,hv,fun h0=>by omega,fun _=>⟨by simp [thawG,upd],hcap,?_⟩⟩
  show cap * sz≤upd G.cap (d,key) arr.size (d,key)
  simp only [upd,if_true]
  have:=hroom _ hlen
  omega
 obtain ⟨henv,hmem⟩:=h.place (G':=thawG G (l.ow d) (l.path σ) (d,key) b arr.size) (σ1:=σ.killB) (c:=.bs (d,key) n sz) hl C.killB (fun t=>by
  show (σ.env t).killB=_
  cases σ.env t <;> rfl) (fun k cs1 hk=>by
  have hk':(σ.mem k).map (List.map C.killB)=some cs1:=hk
  rw [Option.map_eq_some_iff] at hk'
  obtain ⟨cs0,h0,rfl⟩:=hk'
  exact ⟨cs0,h0,rfl⟩) hbs (fun o p x v _ hno hx=>(hRn o p hno).rc hx)
 have hsome:∀ k,((l.set σ.killB (.bs (d,key) n sz)).mem k).isSome=(σ.mem k).isSome:=by
  intro k
  cases l with
  | env t i =>
   simp only [Loc.set]
   split <;> simp [St.killB]
  | mem k' off =>
   simp only [Loc.set]
   split
   ·rename_i cs' hcs'
    show (upd σ.killB.mem k' _ k).isSome=_
    by_cases hk:k=k'
    ·subst hk
     have:((σ.mem k).map (List.map C.killB))=some cs':=hcs'
     rw [Option.map_eq_some_iff] at this
     obtain ⟨c0,h0,_⟩:=this
     simp [upd,h0]
    ·simp [upd,hk,St.killB]
   ·simp [St.killB]
 refine ⟨thawG G (l.ow d) (l.path σ) (d,key) b arr.size,{ sz:=h.sz,env:=henv,mem:=fun k cs2 hk hn2=>?_,live:=fun k=>?_,dep:=?_,wf:=?_,wfb:=?_,wfc:=?_,age:=h.age,fut:=h.fut,aged:=?_,jump:=fun hl b=>hl.elim (fun e=>absurd (Prod.mk.inj e).2.symm hkK) fun hl=>h.jump hl b },
  {size:=Nat.le_refl _,kept:=Kept.refl w,same:=fun x hx ht=>⟨rfl,?_,rfl⟩,age:=fun _ _ _=>rfl,box:=fun x hx ha hk k=>?_,use:=fun _ _ _=>Nat.le_refl _,cell:=fun _ _ _ _ _ _=>rfl,live:=fun k hk _=>hlive k hk,back:=fun k' hk' hl=>.inl (hl.elim (fun e=>by rw [e] at hk';exact absurd hk' (Nat.lt_irrefl d)) id),up:=fun _ h=>h }⟩
 ·by_cases hk2:k=(d,key)
  ·subst hk2
   have hk':upd (l.set σ.killB (.bs (d,key) n sz)).mem (d,key) (some (cs.map (C.ofD m.elem))) (d,key)=some cs2:=hk
   simp only [upd,if_true,Option.some.injEq] at hk'
   subst hk'
   obtain ⟨vs,e1,e2,e3⟩:=zla hs
   have hle:cs.length≤arr.size:=by
    have h1:=hroom _ hlen
    have h2:n * sz≤cap * sz:=Nat.mul_le_mul_right _ hcap
    omega
   refine ⟨arr,e,by simp only [thawG,upd,if_true];exact harr,by simp [thawG,upd],by simp [thawG,upd],?_⟩
   refine ⟨by simp;omega,fun j c hj=>?_⟩
   rw [List.getElem?_map] at hj
   cases hx:cs[j]? with
   | none=>rw [hx] at hj;cases hj
   | some x =>
    rw [hx] at hj
    cases hj
    obtain ⟨v,hv1,hrd⟩:=e3 j x hx
    have hjl:j < cs.length:=(List.getElem?_eq_some_iff.1 hx).1
    refine ⟨v,?_,?_⟩
    ·rw [List.getElem?_take,if_pos (by simpa using hjl),Array.getElem?_toList]
     have:=e2 j v hv1
     rw [zjh harr] at this
     simpa using this
    ·refine RC_ofD ?_
     have hme:m.elem≠.bor:=by rcases hm with rfl | rfl <;> decide
     have:=(hRc j).rd (m:=m.elem) hme (by simpa using hrd)
     simpa using this
  ·have hk':upd (l.set σ.killB (.bs (d,key) n sz)).mem (d,key) (some (cs.map (C.ofD m.elem))) k=some cs2:=hk
   simp only [upd,hk2,if_false] at hk'
   obtain ⟨arr2,el2,cs0,h0,_,h1,h2,h3,h4⟩:=hmem k cs2 hk' hn2
   have hkl:G.live k:=(h.live k).2 (by rw [h0];rfl)
   obtain ⟨_,a2,a3⟩:=hlive k hkl
   refine ⟨arr2,el2,by rw [a2];exact h1,?_,by rw [a3];exact h3,h4⟩
   rw [a2]
   have hxb:G.β k≠b:=by intro hb;rw [hb,hob] at h2;cases h2
   simp only [thawG,hxb,if_false,h2]
   rfl
 ·show (k=(d,key)∨G.live k) ↔ (upd (l.set σ.killB (.bs (d,key) n sz)).mem (d,key) (some (cs.map (C.ofD m.elem))) k).isSome=true
  by_cases hk:k=(d,key)
  ·subst hk;simp [upd]
  ·simp [upd,hk,hsome,h.live k]
 ·rintro k (rfl | hk)
  ·exact Nat.le_refl d
  ·exact h.dep k hk
 ·intro x t hx
  simp only [thawG] at hx
  split at hx
  ·rename_i hxb;rw [hxb];exact hbl
  ·rw [Option.map_eq_some_iff] at hx
   obtain ⟨t0,ht0,_⟩:=hx
   exact h.wf x t0 ht0
 ·intro x k hx
  simp only [thawG] at hx
  split at hx
  ·rename_i hxb
   simp only [Option.some.injEq,Tag.box.injEq] at hx
   subst hx
   exact ⟨.inl rfl,by simp [thawG,upd,hxb]⟩
  ·rw [Option.map_eq_some_iff] at hx
   obtain ⟨t0,ht0,hbx⟩:=hx
   have:=thawT_box hbx
   subst this
   obtain ⟨a1,a2⟩:=h.wfb x k ht0
   exact ⟨.inr a1,by rw [(hlive k a1).2.1];exact a2⟩
 ·intro x k p hx
  simp only [thawG] at hx
  split at hx
  ·cases hx
  ·rw [Option.map_eq_some_iff] at hx
   obtain ⟨t0,ht0,hbx⟩:=hx
   rcases thawT_cell hbx with rfl | ⟨q',rfl⟩
   ·exact .inl rfl
   ·exact .inr (h.wfc x k q' ht0)
 ·intro x t hx
  show t.dep d≤G.age x
  simp only [thawG] at hx
  split at hx
  ·rename_i hxb
   cases hx
   rw [hxb]
   exact hage
  ·rw [Option.map_eq_some_iff] at hx
   obtain ⟨t0,ht0,hbx⟩:=hx
   have ha:=h.aged x t0 ht0
   subst hbx
   cases t0 with
   | foreign=>exact Nat.zero_le _
   | box k=>exact ha
   | «at» o q =>
    simp only [thawT]
    split
    ·rename_i ho
     split
     ·exact Nat.zero_le _
     ·show d≤G.age x
      rw [ho] at ha
      have:(l.ow d).dep d≤G.age x:=ha
      omega
     ·exact ha
    ·exact ha
 ·have hxb:x≠b:=by
   rintro rfl
   apply ht
   rw [hob]
   cases l with
   | env t i=>exact Nat.le_refl d
   | mem k off=>trivial
  simp only [thawG,hxb,if_false]
  cases hx0:G.own x with
  | none=>rfl
  | some t0 =>
   rw [hx0] at ht
   cases t0 with
   | foreign=>rfl
   | box k=>rfl
   | «at» o q =>
    simp only [Option.map_some,thawT]
    rw [if_neg]
    rintro rfl
    apply ht
    cases l with
    | env t i=>exact Nat.le_refl d
    | mem k off=>trivial
 ·have hxb:x≠b:=by rintro rfl;omega
  simp only [thawG,hxb,if_false]
  intro hx2
  rw [Option.map_eq_some_iff] at hx2
  obtain ⟨t0,ht0,hbx⟩:=hx2
  have:=thawT_box hbx
  subst this
  exact hk k ht0

theorem thaw_nil_ok {d N:Nat} {G:Gh} {σ:St} {tm:Array Value} {w:World} (h:Sim d N G σ tm w) {l:Loc} {m:Md} {n key sz:Nat} (hl:l.get σ=some (.l m n [])) (hm:m=.own∨m=.top)
 (hK:σ.mem (d,key)=none) (hkK:key≠deepK) (hsz:0 < sz) :
 ∃ G',Sim d N G' { l.set σ.killB (.bs (d,key) n sz) with mem:=upd (l.set σ.killB (.bs (d,key) n sz)).mem (d,key) (some []) } tm w∧Frm d G w G' w:=by
 obtain ⟨v0,hval0,hv0⟩:=Loc.read h hl
 have hr0:RD w G (l.ow d) m (l.path σ) (.sl n []) v0:=hv0
 rw [RD] at hr0
 rcases hr0 with ⟨_,hn0,ba,cap,hv,hcap⟩|⟨h0,_⟩
 rotate_left
 ·exact absurd rfl h0
 have hnl:¬ G.live (d,key):=by rw [h.live,hK];simp
 have hRn:∀ o p,Rn G { G with live:=fun k=>k=(d,key)∨G.live k } o p o p:=fun o p =>
  ⟨fun x q hx=>⟨hx,rfl⟩,fun x hx=>⟨hx,Nat.le_refl _⟩,fun k hk=>⟨.inr hk,rfl,rfl⟩⟩
 have hc0:cap=0:=hcap (by rcases hm with rfl | rfl <;> rfl)
 obtain ⟨henv,hmem⟩:=h.place (G':={ G with live:=fun k=>k=(d,key)∨G.live k }) (σ1:=σ.killB) (c:=.bs (d,key) n sz) hl C.killB (fun t=>by
  show (σ.env t).killB=_
  cases σ.env t <;> rfl) (fun k cs1 hk=>by
  have hk':(σ.mem k).map (List.map C.killB)=some cs1:=hk
  rw [Option.map_eq_some_iff] at hk'
  obtain ⟨cs0,h0,rfl⟩:=hk'
  exact ⟨cs0,h0,rfl⟩) (fun v hv2=>by
   have hvv:=hv2.uniq hval0
   subst hvv
   exact ⟨.inl rfl,hsz,ba,cap,by rw [hv,hn0],fun _=>hc0,fun h0=>by omega⟩) (fun o p x v _ hno hx=>(hRn o p).rc hx)
 have hsome:∀ k,((l.set σ.killB (.bs (d,key) n sz)).mem k).isSome=(σ.mem k).isSome:=by
  intro k
  cases l with
  | env t i =>
   simp only [Loc.set]
   split <;> simp [St.killB]
  | mem k' off =>
   simp only [Loc.set]
   split
   ·rename_i cs' hcs'
    show (upd σ.killB.mem k' _ k).isSome=_
    by_cases hk:k=k'
    ·subst hk
     have:((σ.mem k).map (List.map C.killB))=some cs':=hcs'
     rw [Option.map_eq_some_iff] at this
     obtain ⟨c0,h0,_⟩:=this
     simp [upd,h0]
    ·simp [upd,hk,St.killB]
   ·simp [St.killB]
 refine ⟨{ G with live:=fun k=>k=(d,key)∨G.live k },{ sz:=h.sz,env:=henv,mem:=fun k cs2 hk hn2=>?_,live:=fun k=>?_,dep:=?_,wf:=h.wf,wfb:=fun x k hx=>?_,wfc:=fun x k p hx=>.inr (h.wfc x k p hx),age:=h.age,fut:=h.fut,aged:=h.aged,jump:=fun hl b=>hl.elim (fun e=>absurd (Prod.mk.inj e).2.symm hkK) fun hl=>h.jump hl b },
  {size:=Nat.le_refl _,kept:=Kept.refl w,same:=fun x hx ht=>⟨rfl,rfl,rfl⟩,age:=fun _ _ _=>rfl,box:=fun x hx ha hk k=>hk k,use:=fun _ _ _=>Nat.le_refl _,cell:=fun _ _ _ _ _ _=>rfl,live:=fun k hk _=>⟨.inr hk,rfl,rfl⟩,back:=fun k' hk' hl=>.inl (hl.elim (fun e=>by rw [e] at hk';exact absurd hk' (Nat.lt_irrefl d)) id),up:=fun _ h=>h }⟩
 ·have hk':upd (l.set σ.killB (.bs (d,key) n sz)).mem (d,key) (some []) k=some cs2:=hk
  by_cases hk2:k=(d,key)
  ·subst hk2
   simp only [upd,if_true,Option.some.injEq] at hk'
   exact absurd hk'.symm hn2
  ·simp only [upd,hk2,if_false] at hk'
   obtain ⟨arr2,el2,cs0,h0,_,h1,h2,h3,h4⟩:=hmem k cs2 hk' hn2
   exact ⟨arr2,el2,h1,h2,h3,h4⟩
 ·show (k=(d,key)∨G.live k) ↔ (upd (l.set σ.killB (.bs (d,key) n sz)).mem (d,key) (some []) k).isSome=true
  by_cases hk:k=(d,key)
  ·subst hk;simp [upd]
  ·simp [upd,hk,hsome,h.live k]
 ·rintro k (rfl | hk)
  ·exact Nat.le_refl d
  ·exact h.dep k hk
 ·obtain ⟨a1,a2⟩:=h.wfb x k hx
  exact ⟨.inr a1,a2⟩

def frzT (oL:Ow) (pL:List Nat) (k:Key):Tag→Tag
 | .at (.cell k') r=>if k'=k then .at oL (pL ++ r) else .at (.cell k') r
 | t=>t

def frzG (G:Gh) (oL:Ow) (pL:List Nat) (k:Key) (n:Nat):Gh :=
 {G with own:=fun x=>if x=G.β k then some (.at oL pL) else (G.own x).map (frzT oL pL k),use:=upd G.use (G.β k) n,live:=fun k'=>k'≠k∧G.live k' }

theorem zqn {oL:Ow} {pL:List Nat} {k k2:Key} {t:Tag} (h:frzT oL pL k t=.box k2):t=.box k2:=by
 cases t with
 | foreign=>cases h
 | box k'=>exact h
 | «at» o q =>
  cases o with
  | cell k' =>
   simp only [frzT] at h;split at h <;> cases h
  | _=>cases h

def rmT (k:Key):Tag→Tag
 | .box k'=>if k'=k then .foreign else .box k'
 | .at (.cell k') r=>if k'=k then .foreign else .at (.cell k') r
 | t=>t
def rmG (G:Gh) (k:Key):Gh:={ G with own:=fun x=>(G.own x).map (rmT k),live:=fun k'=>k'≠k∧G.live k' }
theorem rmT_box {k k2:Key} {t:Tag} (h:rmT k t=.box k2):t=.box k2∧k2≠k:=by
 cases t with
 | foreign=>cases h
 | box k' =>
  simp only [rmT] at h
  split at h
  ·cases h
  ·rename_i hne;cases h;exact ⟨rfl,hne⟩
 | «at» o q =>
  cases o with
  | cell k'=>simp only [rmT] at h;split at h <;> cases h
  | slot a b=>cases h
  | ret=>cases h
theorem rmT_cell {k k2:Key} {p:List Nat} {t:Tag} (h:rmT k t=.at (.cell k2) p):t=.at (.cell k2) p∧k2≠k:=by
 cases t with
 | foreign=>cases h
 | box k'=>simp only [rmT] at h;split at h <;> cases h
 | «at» o q =>
  cases o with
  | cell k' =>
   simp only [rmT] at h
   split at h
   ·cases h
   ·rename_i hne;cases h;exact ⟨rfl,hne⟩
  | slot a b=>cases h
  | ret=>cases h

theorem frz_nil_ok {d N:Nat} {G:Gh} {σ:St} {tm:Array Value} {w:World} (h:Sim d N G σ tm w) {l:Loc} {k:Key} {n sz:Nat} (hl:l.get σ=some (.bs k n sz)) (hown:l.notK k=true) (hm:σ.mem k=some [])
 {m:Md} (hkd:k.1=d) (hn:n=0) :
 ∃ G',Sim d N G' (l.set (σ.killK k) (.l m n [])) tm w∧Frm d G w G' w:=by
 obtain ⟨v0,hval0,hv0⟩:=Loc.read h hl
 obtain ⟨hlk,_,ba,cap,hv,hc0,_⟩:=hv0
 have hH:∀ o p,o≠.cell k→Hands w G w (rmG G k) o p o p (· == k):=by
  intro o p hno
  refine { tag:=fun x q _ hx=>⟨?_,rfl,rfl⟩,nil:=fun x _ hx=>?_,nilh:=fun _ _ _=>rfl,box:=fun x _ hx k2=>?_,use:=fun x _ hx=>Nat.le_refl _,cell:=fun _ _ _ _ _=>rfl,live:=fun k2 hk2 hq=>⟨⟨by simpa using hq,hk2⟩,rfl,rfl⟩ }
  ·show (G.own x).map (rmT k)=_
   rw [hx]
   cases o with
   | cell k' =>
    simp only [Option.map_some,rmT]
    rw [if_neg (fun hk'=>hno (by rw [hk']))]
   | slot a b=>rfl
   | ret=>rfl
  ·show (G.own x).map (rmT k)=_
   rw [hx];rfl
  ·show (G.own x).map (rmT k)≠_
   intro hx2
   rw [Option.map_eq_some_iff] at hx2
   obtain ⟨t0,ht0,hbx⟩:=hx2
   obtain ⟨rfl,_⟩:=rmT_box hbx
   exact hx k2 ht0
 obtain ⟨henv,hmem⟩:=h.place (G':=rmG G k) (σ1:=σ.killK k) (c:=.l m n []) hl (C.kill (· == k)) (fun t=>by
  show (σ.env t).kill _=_
  cases σ.env t <;> rfl) (fun k1 cs1 hk=>by
  have hk':memKill (· == k) σ.mem k1=some cs1:=hk
  unfold memKill at hk'
  split at hk'
  ·cases hk'
  ·rw [Option.map_eq_some_iff] at hk'
   obtain ⟨cs0,h0,rfl⟩:=hk'
   exact ⟨cs0,h0,rfl⟩) (fun v hv2=>by
   have hvv:=hv2.uniq hval0
   subst hvv
   show RD w _ _ m _ (.sl n []) _
   rw [RD]
   exact .inl ⟨rfl,hn,ba,cap,by rw [hv,hn],fun _=>hc0 hn⟩) (fun o p x v hk0 hno hx=>by
  by_cases ho:o=.cell k
  ·have:=hk0 k ho
   simp [St.killK,memKill] at this
  ·exact (hH o p ho).rc hx)
 have hnone:(l.set (σ.killK k) (.l m n [])).mem k=none:=by
  cases l with
  | env t i =>
   simp only [Loc.set]
   split <;> simp [St.killK,memKill]
  | mem k' off =>
   have hk':k'≠k:=by simpa [Loc.notK] using hown
   simp only [Loc.set]
   split
   ·show upd _ k' _ k=none
    simp [upd,Ne.symm hk',St.killK,memKill]
   ·simp [St.killK,memKill]
 have hsome:∀ k2,k2≠k→((l.set (σ.killK k) (.l m n [])).mem k2).isSome=(σ.mem k2).isSome:=by
  intro k2 hk2
  have h0:((σ.killK k).mem k2).isSome=(σ.mem k2).isSome:=by simp [St.killK,memKill,hk2]
  cases l with
  | env t i =>
   simp only [Loc.set]
   split <;> exact h0
  | mem k' off =>
   simp only [Loc.set]
   split
   ·rename_i cs' hcs'
    show Option.isSome (upd (σ.killK k).mem k' (some (cs'.set off (.l m n []))) k2)=_
    by_cases hk:k2=k'
    ·subst hk
     rw [← h0,hcs']
     simp [upd]
    ·simp only [upd,hk,if_false];exact h0
   ·exact h0
 refine ⟨rmG G k,{ sz:=h.sz,env:=henv,mem:=fun k2 cs2 hk hn2=>?_,live:=fun k2=>?_,dep:=fun k2 hk2=>h.dep k2 hk2.2,wf:=?_,wfb:=?_,wfc:=?_,age:=h.age,fut:=h.fut,aged:=?_,jump:=fun hl b=>h.jump hl.2 b },
  {size:=Nat.le_refl _,kept:=Kept.refl w,same:=fun x hx ht=>⟨rfl,?_,rfl⟩,age:=fun _ _ _=>rfl,box:=fun x hx ha hk k2=>?_,use:=fun x _ ha=>Nat.le_refl _,cell:=fun _ _ _ _ _ _=>rfl,live:=fun k2 hk2 hd2=>⟨⟨by rintro rfl;omega,hk2⟩,rfl,rfl⟩,back:=fun _ _ h=>.inl h.2,up:=fun _ h=>h }⟩
 ·have hk2:k2≠k:=by rintro rfl;rw [hnone] at hk;cases hk
  obtain ⟨arr2,el2,cs0,h0,_,h1,h2,h3,h4⟩:=hmem k2 cs2 hk hn2
  refine ⟨arr2,el2,h1,?_,h3,h4⟩
  show (G.own (G.β k2)).map (rmT k)=_
  rw [h2]
  simp [rmT,hk2]
 ·show (k2≠k∧G.live k2) ↔ _
  by_cases hk2:k2=k
  ·subst hk2;simp [hnone]
  ·rw [hsome k2 hk2,h.live k2];simp [hk2]
 ·intro x t hx
  have hx:(G.own x).map (rmT k)=some t:=hx
  rw [Option.map_eq_some_iff] at hx
  obtain ⟨t0,ht0,_⟩:=hx
  exact h.wf x t0 ht0
 ·intro x k2 hx
  have hx:(G.own x).map (rmT k)=some (.box k2):=hx
  rw [Option.map_eq_some_iff] at hx
  obtain ⟨t0,ht0,hbx⟩:=hx
  obtain ⟨rfl,hne⟩:=rmT_box hbx
  obtain ⟨a1,a2⟩:=h.wfb x k2 ht0
  exact ⟨⟨hne,a1⟩,a2⟩
 ·intro x k2 p hx
  have hx:(G.own x).map (rmT k)=some (.at (.cell k2) p):=hx
  rw [Option.map_eq_some_iff] at hx
  obtain ⟨t0,ht0,hbx⟩:=hx
  obtain ⟨rfl,hne⟩:=rmT_cell hbx
  exact ⟨hne,h.wfc x k2 p ht0⟩
 ·intro x t hx
  have hx:(G.own x).map (rmT k)=some t:=hx
  show t.dep d≤G.age x
  rw [Option.map_eq_some_iff] at hx
  obtain ⟨t0,ht0,hbx⟩:=hx
  have ha:=h.aged x t0 ht0
  subst hbx
  cases t0 with
  | foreign=>exact Nat.zero_le _
  | box k' =>
   simp only [rmT]
   split
   ·exact Nat.zero_le _
   ·exact ha
  | «at» o q =>
   cases o with
   | cell k' =>
    simp only [rmT]
    split
    ·exact Nat.zero_le _
    ·exact ha
   | slot a b=>exact ha
   | ret=>exact ha
 ·show (G.own x).map (rmT k)=_
  cases hx0:G.own x with
  | none=>rfl
  | some t0 =>
   rw [hx0] at ht
   cases t0 with
   | foreign=>rfl
   | box k'=>exact absurd trivial ht
   | «at» o q =>
    cases o with
    | cell k'=>exact absurd trivial ht
    | slot a b=>rfl
    | ret=>rfl
 ·show (G.own x).map (rmT k)≠_
  intro hx2
  rw [Option.map_eq_some_iff] at hx2
  obtain ⟨t0,ht0,hbx⟩:=hx2
  obtain ⟨rfl,_⟩:=rmT_box hbx
  exact hk k2 ht0

theorem frz_ok {d N:Nat} {G:Gh} {σ:St} {tm:Array Value} {w:World} (h:Sim d N G σ tm w) {l:Loc} {k:Key} {n sz:Nat} (hl:l.get σ=some (.bs k n sz)) (hown:l.notK k=true) {cs:List C} (hm:σ.mem k=some cs) {m:Md} {ds:List D}
 (hmo:modeOf (cs.take (n * sz))=some m) (hds:(cs.take (n * sz)).mapM C.toD=some ds) (hkd:k.1=d) (hlen:(cs.take (n * sz)).length=n * sz) (hz:0 < sz) (hcne:cs≠[]) :
 ∃ G',Sim d N G' (l.set (σ.killK k) (.l m n ds)) tm w∧Frm d G w G' w:=by
 obtain ⟨v0,hval0,hv0⟩:=Loc.read h hl
 obtain ⟨hlk,_,ba,cap,hv,hc0,hpos'⟩:=hv0
 obtain ⟨arr,e,harr,hob,harrsz,hcells⟩:=h.mem k cs hm hcne
 have hdep:(l.ow d).dep d≤d:=by
  cases l with
  | env t i=>exact Nat.le_refl d
  | mem k' off =>
   simp only [Loc.get] at hl
   rw [Option.bind_eq_some_iff] at hl
   obtain ⟨cs',hcs',_⟩:=hl
   exact h.dep k' ((h.live k').2 (by rw [hcs'];rfl))
 have hage:d≤G.age (G.β k):=by have:=h.aged _ _ hob;rw [← hkd];exact this
 obtain ⟨hl1,hl2⟩:=zmg hds
 have hH:∀ o p,o≠.cell k→Hands w G w (frzG G (l.ow d) (l.path σ) k ds.length) o p o p (· == k):=by
  intro o p hno
  refine { tag:=fun x q _ hx=>?_,nil:=fun x _ hx=>?_,nilh:=fun _ _ _=>rfl,box:=fun x _ hx k2=>?_,use:=fun x _ hx=>?_,cell:=fun _ _ _ _ _=>rfl,live:=fun k2 hk2 hq=>⟨⟨by simpa using hq,hk2⟩,rfl,rfl⟩ }
  ·have hxb:x≠G.β k:=by rintro rfl;rw [hob] at hx;cases hx
   refine ⟨?_,by simp [frzG,upd,hxb],rfl⟩
   simp only [frzG,hxb,if_false,hx,Option.map_some,frzT]
   split
   ·rename_i heq
    simp only [Tag.at.injEq] at heq
    split
    ·rename_i hk'
     subst hk'
     exact absurd heq.1 hno
    ·rw [← heq.1,← heq.2]
   ·rfl
  ·have hxb:x≠G.β k:=by rintro rfl;rw [hob] at hx;cases hx
   simp [frzG,hxb,hx]
  ·have hxb:x≠G.β k:=by rintro rfl;exact hx k hob
   simp only [frzG,hxb,if_false]
   intro hx2
   rw [Option.map_eq_some_iff] at hx2
   obtain ⟨t0,ht0,hbx⟩:=hx2
   have:=zqn hbx
   subst this
   exact hx k2 ht0
  ·have hxb:x≠G.β k:=by rintro rfl;exact hx k hob
   simp [frzG,upd,hxb]
 have hC:∀ j,Hand w G w (frzG G (l.ow d) (l.path σ) k ds.length) (.cell k) [j] (l.ow d) (l.path σ ++ [j]):=by
  intro j
  have h0:=(hH .ret [] (by simp)).toHand
  refine { tag:=fun x q _ hx=>?_,nil:=h0.nil,nilh:=fun _ _ _=>rfl,box:=h0.box,use:=h0.use,cell:=h0.cell }
  have hxb:x≠G.β k:=by rintro rfl;rw [hob] at hx;cases hx
  refine ⟨?_,by simp [frzG,upd,hxb],rfl⟩
  simp only [frzG,hxb,if_false,hx,Option.map_some,frzT,List.cons_append,List.nil_append,if_true,List.append_assoc]
 have hread:∀ v,l.Val G σ tm w v→RC w (frzG G (l.ow d) (l.path σ) k ds.length) (l.ow d) (l.path σ) (.l m n ds) v:=by
  intro v hv2
  have hvv:=hv2.uniq hval0
  subst hvv
  show RD w _ _ m _ (.sl n ds) _
  obtain ⟨hmo1,_⟩:=zkh (w:=w) (G:=G) (o:=.cell k) (p:=[]) hmo
  rw [RD]
  by_cases hn:n=0
  ·left
   subst hn
   refine ⟨List.length_eq_zero_iff.1 (by rw [hl1,hlen];simp),rfl,_,cap,hv,fun _=>hc0 rfl⟩
  ·right
   have hpos:0 < n * sz:=Nat.mul_pos (Nat.pos_of_ne_zero hn) hz
   have hdl:ds.length=n * sz:=by rw [hl1,hlen]
   obtain ⟨rfl,hcap,hroom⟩:=hpos' (Nat.pos_of_ne_zero hn)
   refine ⟨by rintro rfl;simp at hdl;omega,Nat.pos_of_ne_zero hn,G.β k,0,cap,hv,hcap,?_,zlb fun j x hj=>?_⟩
   ·have hh:(frzG G (l.ow d) (l.path σ) k ds.length).own (G.β k)=some (.at (l.ow d) (l.path σ))∧0+ds.length=(frzG G (l.ow d) (l.path σ) k ds.length).use (G.β k)∧0=0 ∧
     ∃ arr e,w.heap[G.β k]?=some (.cells arr e (0,0))∧∀ sz,ds.length=n * sz→0+cap * sz≤arr.size:=by
     refine ⟨by simp [frzG],by simp [frzG,upd],rfl,arr,e,harr,fun sz' hsz'=>?_⟩
     have:sz'=sz:=by
      rw [hdl] at hsz'
      exact (Nat.eq_of_mul_eq_mul_left (Nat.pos_of_ne_zero hn) hsz').symm
     subst this
     rw [harrsz]
     omega
    cases m <;> first | exact hh | simp [Md.isOwn] at hmo1
   ·obtain ⟨c,hc,hcx⟩:=hl2 j x hj
    have hcs:cs[j]?=some c:=zkb hc
    obtain ⟨u,hu,hrc⟩:=hcells.2 j c hcs
    refine ⟨u,?_,?_⟩
    ·rw [zjh harr]
     have:=zkb hu
     rw [Array.getElem?_toList] at this
     simpa using this
    ·obtain ⟨_,hme⟩:=zkh (w:=w) (G:=G) (o:=.cell k) (p:=[j]) hmo
     have:=hme c (List.mem_of_getElem? hc) x u hcx (by simpa using hrc)
     simpa using (hC j).rd this
 obtain ⟨henv,hmem⟩:=h.place (G':=frzG G (l.ow d) (l.path σ) k ds.length) (σ1:=σ.killK k) (c:=.l m n ds) hl (C.kill (· == k)) (fun t=>by
  show (σ.env t).kill _=_
  cases σ.env t <;> rfl) (fun k1 cs1 hk=>by
  have hk':memKill (· == k) σ.mem k1=some cs1:=hk
  unfold memKill at hk'
  split at hk'
  ·cases hk'
  ·rw [Option.map_eq_some_iff] at hk'
   obtain ⟨cs0,h0,rfl⟩:=hk'
   exact ⟨cs0,h0,rfl⟩) hread (fun o p x v hk0 hno hx=>by
  by_cases ho:o=.cell k
  ·have:=hk0 k ho
   simp [St.killK,memKill] at this
  ·exact (hH o p ho).rc hx)
 have hnone:(l.set (σ.killK k) (.l m n ds)).mem k=none:=by
  cases l with
  | env t i =>
   simp only [Loc.set]
   split <;> simp [St.killK,memKill]
  | mem k' off =>
   have hk':k'≠k:=by simpa [Loc.notK] using hown
   simp only [Loc.set]
   split
   ·show upd _ k' _ k=none
    simp [upd,Ne.symm hk',St.killK,memKill]
   ·simp [St.killK,memKill]
 have hsome:∀ k2,k2≠k→((l.set (σ.killK k) (.l m n ds)).mem k2).isSome=(σ.mem k2).isSome:=by
  intro k2 hk2
  have h0:((σ.killK k).mem k2).isSome=(σ.mem k2).isSome:=by simp [St.killK,memKill,hk2]
  cases l with
  | env t i =>
   simp only [Loc.set]
   split <;> exact h0
  | mem k' off =>
   simp only [Loc.set]
   split
   ·rename_i cs' hcs'
    show Option.isSome (upd (σ.killK k).mem k' (some (cs'.set off (.l m n ds))) k2)=_
    by_cases hk:k2=k'
    ·subst hk
     rw [← h0,hcs']
     simp [upd]
    ·simp only [upd,hk,if_false];exact h0
   ·exact h0
 have hplace:∀ k2 p,Tag.at (l.ow d) (l.path σ ++ p)=.at (.cell k2) (l.path σ ++ p)→k2≠k∧G.live k2:=by
  intro k2 p hk2
  cases l with
  | env t i=>cases hk2
  | mem k' off =>
   simp only [Loc.ow,Tag.at.injEq,Ow.cell.injEq,and_true] at hk2
   subst hk2
   refine ⟨by simpa [Loc.notK] using hown,?_⟩
   simp only [Loc.get] at hl
   rw [Option.bind_eq_some_iff] at hl
   obtain ⟨cs',hcs',_⟩:=hl
   exact (h.live k').2 (by rw [hcs'];rfl)
 refine ⟨frzG G (l.ow d) (l.path σ) k ds.length,{ sz:=h.sz,env:=henv,mem:=fun k2 cs2 hk hn2=>?_,live:=fun k2=>?_,dep:=fun k2 hk2=>h.dep k2 hk2.2,wf:=?_,wfb:=?_,wfc:=?_,age:=h.age,fut:=h.fut,aged:=?_,jump:=fun hl b=>h.jump hl.2 b },
  {size:=Nat.le_refl _,kept:=Kept.refl w,same:=fun x hx ht=>⟨rfl,?_,?_⟩,age:=fun _ _ _=>rfl,box:=fun x hx ha hk k2=>?_,use:=fun x _ ha=>?_,cell:=fun _ _ _ _ _ _=>rfl,live:=fun k2 hk2 hd2=>⟨⟨by rintro rfl;omega,hk2⟩,rfl,rfl⟩,back:=fun _ _ h=>.inl h.2,up:=fun _ h=>h }⟩
 ·have hk2:k2≠k:=by rintro rfl;rw [hnone] at hk;cases hk
  obtain ⟨arr2,el2,cs0,h0,_,h1,h2,h3,h4⟩:=hmem k2 cs2 hk hn2
  refine ⟨arr2,el2,h1,?_,h3,h4⟩
  have hxb:G.β k2≠G.β k:=by
   intro hb
   rw [hb,hob] at h2
   simp only [Option.some.injEq,Tag.box.injEq] at h2
   exact hk2 h2.symm
  show (if G.β k2=G.β k then some (Tag.at (l.ow d) (l.path σ)) else (G.own (G.β k2)).map (frzT (l.ow d) (l.path σ) k))=_
  rw [if_neg hxb,h2]
  rfl
 ·show (k2≠k∧G.live k2) ↔ _
  by_cases hk2:k2=k
  ·subst hk2;simp [hnone]
  ·rw [hsome k2 hk2,h.live k2];simp [hk2]
 ·intro x t hx
  simp only [frzG] at hx
  split at hx
  ·rename_i hxb;rw [hxb];exact h.wf _ _ hob
  ·rw [Option.map_eq_some_iff] at hx
   obtain ⟨t0,ht0,_⟩:=hx
   exact h.wf x t0 ht0
 ·intro x k2 hx
  simp only [frzG] at hx
  split at hx
  ·cases hx
  ·rename_i hxb
   rw [Option.map_eq_some_iff] at hx
   obtain ⟨t0,ht0,hbx⟩:=hx
   have:=zqn hbx
   subst this
   obtain ⟨a1,a2⟩:=h.wfb x k2 ht0
   exact ⟨⟨by rintro rfl;exact hxb a2.symm,a1⟩,a2⟩
 ·intro x k2 p hx
  show k2≠k∧G.live k2
  simp only [frzG] at hx
  split at hx
  ·simp only [Option.some.injEq] at hx
   refine hplace k2 [] ?_
   simp only [Tag.at.injEq] at hx
   rw [hx.1]
  ·rw [Option.map_eq_some_iff] at hx
   obtain ⟨t0,ht0,hbx⟩:=hx
   cases t0 with
   | foreign=>cases hbx
   | box k'=>cases hbx
   | «at» o q =>
    cases o with
    | cell k' =>
     simp only [frzT] at hbx
     split at hbx
     ·refine hplace k2 q ?_
      simp only [Tag.at.injEq] at hbx
      rw [hbx.1]
     ·rename_i hk'
      simp only [Tag.at.injEq,Ow.cell.injEq] at hbx
      rw [← hbx.1]
      exact ⟨hk',h.wfc x k' q ht0⟩
    | slot a b=>cases hbx
    | ret=>cases hbx
 ·intro x t hx
  show t.dep d≤G.age x
  simp only [frzG] at hx
  split at hx
  ·rename_i hxb
   cases hx
   rw [hxb]
   exact Nat.le_trans hdep hage
  ·rw [Option.map_eq_some_iff] at hx
   obtain ⟨t0,ht0,hbx⟩:=hx
   have ha:=h.aged x t0 ht0
   subst hbx
   cases t0 with
   | foreign=>exact Nat.zero_le _
   | box k'=>exact ha
   | «at» o q =>
    cases o with
    | cell k' =>
     simp only [frzT]
     split
     ·rename_i hk'
      subst hk'
      have ha:k'.1≤G.age x:=ha
      exact Nat.le_trans hdep (by omega)
     ·exact ha
    | slot a b=>exact ha
    | ret=>exact ha
 ·have hxb:x≠G.β k:=by rintro rfl;apply ht;rw [hob];trivial
  show (if x=G.β k then some (Tag.at (l.ow d) (l.path σ)) else (G.own x).map (frzT (l.ow d) (l.path σ) k))=_
  rw [if_neg hxb]
  cases hx0:G.own x with
  | none=>rfl
  | some t0 =>
   rw [hx0] at ht
   cases t0 with
   | foreign=>rfl
   | box k'=>rfl
   | «at» o q =>
    cases o with
    | cell k'=>exact absurd trivial ht
    | slot a b=>rfl
    | ret=>rfl
 ·have hxb:x≠G.β k:=by rintro rfl;apply ht;rw [hob];trivial
  show upd G.use _ _ x=_
  simp [upd,hxb]
 ·have hxb:x≠G.β k:=by rintro rfl;omega
  show (if x=G.β k then some (Tag.at (l.ow d) (l.path σ)) else (G.own x).map (frzT (l.ow d) (l.path σ) k))≠_
  rw [if_neg hxb]
  intro hx2
  rw [Option.map_eq_some_iff] at hx2
  obtain ⟨t0,ht0,hbx⟩:=hx2
  have:=zqn hbx
  subst this
  exact hk k2 ht0
 ·have hxb:x≠G.β k:=by rintro rfl;omega
  show _≤upd G.use _ _ x
  simp [upd,hxb]

theorem Sim.setMem' {d N:Nat} {G:Gh} {σ:St} {tm:Array Value} {w:World} (h:Sim d N G σ tm w) {k:Key} {cs cs':List C} (hm:σ.mem k=some cs) (hlen:cs'.length=cs.length)
 (hr:∀ vs:List Value,RCs w G (.cell k) [] 0 cs (vs.take cs.length)→RCs w G (.cell k) [] 0 cs' (vs.take cs'.length)):Sim d N G { σ with mem:=upd σ.mem k (some cs') } tm w :=
 {sz:=h.sz,env:=h.env,dep:=h.dep,wf:=h.wf,wfb:=h.wfb,wfc:=h.wfc,age:=h.age,fut:=h.fut,aged:=h.aged,jump:=h.jump
  mem:=fun k2 cs2 hk2 hn2=>by
   by_cases hkk:k2=k
   ·subst hkk
    have:upd σ.mem k2 (some cs') k2=some cs2:=hk2
    simp only [upd,if_true,Option.some.injEq] at this
    subst this
    obtain ⟨arr,e,h1,h2,h2c,h3⟩:=h.mem k2 cs hm (by rintro rfl;exact hn2 (List.length_eq_zero_iff.1 hlen))
    exact ⟨arr,e,h1,h2,h2c,hr _ h3⟩
   ·have:upd σ.mem k (some cs') k2=some cs2:=hk2
    simp only [upd,hkk,if_false] at this
    exact h.mem k2 cs2 this hn2
  live:=fun k2=>by
   rw [h.live k2]
   show (σ.mem k2).isSome=true ↔ (upd σ.mem k (some cs') k2).isSome=true
   by_cases hkk:k2=k
   ·subst hkk;simp [upd,hm]
   ·simp [upd,hkk] }

theorem die_ok {d N:Nat} {G:Gh} {σ:St} {tm:Array Value} {w:World} (h:Sim d N G σ tm w) {k:Key} {off sz:Nat} {cs:List C} (hm:σ.mem k=some cs) (hle:off+sz≤cs.length) :
 Sim d N G { σ with mem:=upd σ.mem k (some (splice cs off (List.replicate sz .dead))) } tm w :=
 h.setMem' hm (by rw [zas _ _ _ (by simpa using hle)]) fun arr hr=>by
  have hl:(splice cs off (List.replicate sz C.dead)).length=cs.length:=zas _ _ _ (by simpa using hle)
  rw [hl]
  refine ⟨by rw [hr.1,hl],fun j c hj=>?_⟩
  rw [zdp _ _ _ (by simpa using hle)] at hj
  split at hj
  ·rename_i hin
   rw [List.length_replicate] at hin
   have hd:c=C.dead:=by
    rw [List.getElem?_replicate] at hj
    split at hj
    ·cases hj;rfl
    ·cases hj
   subst hd
   have hjl:j < (arr.take cs.length).length:=by rw [hr.1];omega
   exact ⟨_,List.getElem?_eq_getElem hjl,trivial⟩
  ·exact hr.2 j c hj

theorem Rn.same (G:Gh) (o:Ow) (p:List Nat):Rn G G o p o p:=⟨fun _ _ hq=>⟨hq,rfl⟩,fun _ hn=>⟨hn,Nat.le_refl _⟩,fun _ hk=>⟨hk,rfl,rfl⟩⟩
theorem Sim.killB {d N:Nat} {G:Gh} {σ:St} {tm:Array Value} {w:World} (h:Sim d N G σ tm w):Sim d N G σ.killB tm w where
 sz:=h.sz
 env t:=(Rn.same G (.slot d t) []).ra (h.env t)
 mem k cs hk hne:=by
  have hk':(σ.mem k).map (List.map C.killB)=some cs:=hk
  rw [Option.map_eq_some_iff] at hk'
  obtain ⟨cs0,h0,rfl⟩:=hk'
  obtain ⟨arr,e,h1,h2,h3,h4⟩:=h.mem k cs0 h0 (by rintro rfl;exact hne rfl)
  exact ⟨arr,e,h1,h2,h3,by rw [List.length_map];exact zgt (fun j=>Rn.same G _ _) h4⟩
 live k:=by
  rw [h.live k]
  show _ ↔ ((σ.mem k).map (List.map C.killB)).isSome=true
  rw [Option.isSome_map]
 dep:=h.dep
 wf:=h.wf
 wfb:=h.wfb
 wfc:=h.wfc
 age:=h.age
 fut:=h.fut
 aged:=h.aged
 jump:=h.jump

theorem zim {d N:Nat} {G:Gh} {σ σ':St} {tm:Array Value} {w:World} (h:Sim d N G σ tm w) {x:Gho} (hx:ghoB d σ x=some σ'):∃ G',Sim d N G' σ' tm w∧Frm d G w G' w:=by
 cases x with
 | thaw p key sz =>
  simp only [ghoB] at hx
  rw [Option.bind_eq_some_iff] at hx
  obtain ⟨l,hl,hx⟩:=hx
  rw [Option.bind_eq_some_iff] at hx
  obtain ⟨c,hc,hx⟩:=hx
  split at hx
  ·rename_i m n cs
   split at hx
   ·rename_i hcond
    simp only [Option.some.injEq] at hx
    subst hx
    have hnone:σ.mem (d,key)=none:=by simpa using hcond.2.2.1
    by_cases hne:cs=[]
    ·subst hne
     exact thaw_nil_ok h hc hcond.1 hnone hcond.2.2.2.1 hcond.2.2.2.2.2
    ·exact thaw_ok h hc hne hcond.1 hcond.2.1 hnone hcond.2.2.2.1 hcond.2.2.2.2.1 hcond.2.2.2.2.2
   ·cases hx
  ·cases hx;exact ⟨G,h,Frm.refl _ _ _⟩
  ·cases hx
 | frz p =>
  simp only [ghoB] at hx
  rw [Option.bind_eq_some_iff] at hx
  obtain ⟨l,hl,hx⟩:=hx
  rw [Option.bind_eq_some_iff] at hx
  obtain ⟨c,hc,hx⟩:=hx
  split at hx
  ·rename_i k n sz
   simp only [Option.bind_eq_some_iff] at hx
   obtain ⟨cs,hcs,m,hm,ds,hds,hx⟩:=hx
   split at hx
   ·rename_i hcond
    simp only [Option.some.injEq] at hx
    subst hx
    by_cases hne:cs=[]
    ·subst hne
     have hn0:n=0:=by
      have h1:=hcond.2.1
      simp only [List.take_nil,List.length_nil] at h1
      rcases Nat.mul_eq_zero.1 h1.symm with h2 | h2
      ·exact h2
      ·have:=hcond.2.2.1;omega
     obtain rfl:ds=[]:=by
      simp only [List.take_nil,List.mapM_nil] at hds
      exact (Option.some.inj hds).symm
     exact frz_nil_ok h hc hcond.2.2.2 hcs hcond.1 hn0
    ·exact frz_ok h hc hcond.2.2.2 hcs hm hds hcond.1 hcond.2.1 hcond.2.2.1 hne
   ·cases hx
  ·cases hx;exact ⟨G,h,Frm.refl _ _ _⟩
 | die p sz =>
  simp only [ghoB] at hx
  rw [Option.bind_eq_some_iff] at hx
  obtain ⟨l,hl,hx⟩:=hx
  split at hx
  ·rename_i k off
   rw [Option.bind_eq_some_iff] at hx
   obtain ⟨cs,hcs,hx⟩:=hx
   split at hx
   ·rename_i hle
    cases hx
    exact ⟨G,die_ok h hcs hle,Frm.refl _ _ _⟩
   ·cases hx
  ·cases hx
 | calm =>
  simp only [ghoB,Option.some.injEq] at hx
  subst hx
  exact ⟨G,h.killB,Frm.refl _ _ _⟩
 | drop q =>
  simp only [ghoB,Option.some.injEq] at hx
  subst hx
  let p:Key→Bool:=fun x=>decide (d≤x.1) && q x
  have hpd:∀ k,p k=true→d≤k.1:=by
   intro k hk
   simp only [p,Bool.and_eq_true,decide_eq_true_eq] at hk
   exact hk.1
  exact ⟨G.drop p d,(h.memOK.drop p (Nat.le_refl d) (fun k' hk _=>h.dep k' hk)).sim h.sz (fun t =>
   (zje G w p d (.slot d t) [] (by simp) (fun d' t' hh=>by cases hh;exact Nat.le_refl _)).ra (h.env t)) (fun hl b=>by show min (G.age b) d+1≠d;have h1:=h.jump hl.1 b;have h2:=h.age b;omega),zqq d G w p d hpd (Nat.le_succ d)⟩
 | many F=>simp only [ghoB] at hx;cases hx
 | share t =>
  simp only [ghoB] at hx
  split at hx
  ·rename_i hd
   rw [Option.map_eq_some_iff] at hx
   obtain ⟨v,hl,rfl⟩:=hx
   exact h.share hd hl
  ·cases hx
 | shareM k =>
  simp only [ghoB] at hx
  rw [Option.bind_eq_some_iff] at hx
  obtain ⟨cs,hcs,hx⟩:=hx
  split at hx
  ·rename_i hd
   rw [Option.map_eq_some_iff] at hx
   obtain ⟨cs',hl,rfl⟩:=hx
   exact h.shareM hd.1 hcs hd.2 hl
  ·cases hx
theorem ghoLB_ok {d N:Nat} {tm:Array Value} {w:World}:∀ {l:List Gho} {G:Gh} {σ σ':St},Sim d N G σ tm w→ghoLB d l σ=some σ'→∃ G',Sim d N G' σ' tm w∧Frm d G w G' w
 | [],G,σ,σ',h,hx=>by cases hx;exact ⟨G,h,Frm.refl _ _ _⟩
 | x :: r,G,σ,σ',h,hx=>by
  simp only [ghoLB] at hx
  rw [Option.bind_eq_some_iff] at hx
  obtain ⟨σ1,h1,h2⟩:=hx
  obtain ⟨G1,hS1,hF1⟩:=zim h h1
  obtain ⟨G2,hS2,hF2⟩:=ghoLB_ok hS1 h2
  exact ⟨G2,hS2,hF1.trans hF2⟩
theorem gho1_ok {d N:Nat} {G:Gh} {σ σ':St} {tm:Array Value} {w:World} (h:Sim d N G σ tm w) {x:Gho} (hx:gho1 d σ x=some σ'):∃ G',Sim d N G' σ' tm w∧Frm d G w G' w:=by
 cases x with
 | many F=>exact ghoLB_ok h hx
 | thaw p key sz=>exact zim h (x:=.thaw p key sz) hx
 | frz p=>exact zim h (x:=.frz p) hx
 | die p sz=>exact zim h (x:=.die p sz) hx
 | calm=>exact zim h (x:=.calm) hx
 | drop q=>exact zim h (x:=.drop q) hx
 | share t=>exact zim h (x:=.share t) hx
 | shareM k=>exact zim h (x:=.shareM k) hx

theorem ghoL_ok {d N:Nat} {tm:Array Value} {w:World}:∀ {l:List Gho} {G:Gh} {σ σ':St},Sim d N G σ tm w→ghoL d l σ=some σ'→∃ G',Sim d N G' σ' tm w∧Frm d G w G' w
 | [],G,σ,σ',h,hx=>by cases hx;exact ⟨G,h,Frm.refl _ _ _⟩
 | x :: r,G,σ,σ',h,hx=>by
  simp only [ghoL] at hx
  rw [Option.bind_eq_some_iff] at hx
  obtain ⟨σ1,h1,h2⟩:=hx
  obtain ⟨G1,hS1,hF1⟩:=gho1_ok h h1
  obtain ⟨G2,hS2,hF2⟩:=ghoL_ok hS1 h2
  exact ⟨G2,hS2,hF1.trans hF2⟩

theorem zks {g:Cfg} {d f id N:Nat} {tm:Array Value} {w:World} {G:Gh} {σ σ':St} (h:Sim d N G σ tm w) (hx:ghoAt g d f id σ=some σ'):∃ G',Sim d N G' σ' tm w∧Frm d G w G' w:=by
 unfold ghoAt at hx
 split at hx
 ·cases hx;exact ⟨G,h,Frm.refl _ _ _⟩
 ·exact ghoL_ok h hx

end Go.Ev


namespace Go.Ev

def CallE (P:Program) (d f:Nat) (args:List AV) (mem mem':Mem) (r:AV):Prop :=
 Enters P f∧∀ (G:Gh) (w:World) (vals:Array Value),vals.size=args.length→(∀ (i:Nat) x,args[i]?=some x→∃ v,vals[i]?=some v∧RA w G (.slot (d+1) i) x v)→MemOK (d+1) G mem w→(G.live (d+1,deepK)→∀ b,G.age b+1≠d+1) →
  Calls P f vals w fun e w'=>∃ v G',e=.returned v∧RA w' G' .ret r v∧MemOK d G' mem' w'∧Frm (d+1) G w G' w'

theorem zno (l:List C):(List.map C.killB ∘ List.map C.killB) l=l.map C.killB:=by
 show (l.map C.killB).map C.killB=_
 rw [List.map_map]
 refine List.map_congr_left fun c _=>?_
 cases c with
 | l m n ds=>cases m <;> rfl
 | _=>rfl
theorem zgd (t:Nat):∀ (l:List Operand) (j:Nat),posOf t l j=(posOf t l 0).map (j + ·)
 | [],j=>rfl
 | x :: r,j=>by
  cases x with
  | tmp u =>
   simp only [posOf]
   split
   ·simp
   ·rw [zgd t r (j+1),zgd t r (0+1)]
    cases posOf t r 0 with
    | none=>rfl
    | some i=>simp only [Option.map_some];congr 1;omega
  | _ =>
   simp only [posOf]
   rw [zgd t r (j+1),zgd t r (0+1)]
   cases posOf t r 0 with
   | none=>rfl
   | some i=>simp only [Option.map_some];congr 1;omega

theorem znb {t:Nat}:∀ {l:List Operand} {i:Nat},nodupA l=true→l[i]?=some (.tmp t)→posOf t l 0=some i
 | [],i,_,h=>by simp at h
 | x :: r,0,hn,h=>by
  simp only [List.getElem?_cons_zero,Option.some.injEq] at h
  subst h
  simp [posOf]
 | x :: r,i+1,hn,h=>by
  simp only [List.getElem?_cons_succ] at h
  cases x with
  | tmp u =>
   simp only [nodupA,Bool.and_eq_true,Bool.not_eq_true',Option.isSome_eq_false_iff,Option.isNone_iff_eq_none] at hn
   have ih:=znb hn.2 h
   have hne:u≠t:=by rintro rfl;rw [ih] at hn;cases hn.1
   simp only [posOf,if_neg hne]
   rw [zgd,ih]
   simp only [Option.map_some]
   congr 1
   omega
  | const v =>
   simp only [nodupA] at hn
   have ih:=znb hn h
   simp only [posOf]
   rw [zgd,ih]
   simp only [Option.map_some]
   congr 1
   omega
  | _=>simp [nodupA] at hn
theorem zng:∀ {l:List Operand} {i:Nat} {y:Operand},nodupA l=true→l[i]?=some y→(∃ t,y=.tmp t)∨∃ v,y=.const v
 | [],i,_,_,h=>by simp at h
 | x :: r,0,y,hn,h=>by
  simp only [List.getElem?_cons_zero,Option.some.injEq] at h
  subst h
  cases x with
  | tmp u=>exact .inl ⟨_,rfl⟩
  | const v=>exact .inr ⟨_,rfl⟩
  | _=>simp [nodupA] at hn
 | x :: r,i+1,y,hn,h=>by
  simp only [List.getElem?_cons_succ] at h
  refine zng (l:=r) ?_ h
  cases x with
  | tmp u=>simp only [nodupA,Bool.and_eq_true] at hn;exact hn.2
  | const v=>simp only [nodupA] at hn;exact hn
  | _=>simp [nodupA] at hn

def giveT (d:Nat) (l:List Operand):Tag→Tag
 | .at (.slot d' t) p=>if d'=d then (match posOf t l 0 with | some i=>.at (.slot (d+1) i) p | none=>.at (.slot d' t) p) else .at (.slot d' t) p
 | .at .ret _=>.foreign
 | t=>t
def given (d:Nat) (l:List Operand):Option Tag→Bool
 | some (.at (.slot d' t) _)=>decide (d'=d) && (posOf t l 0).isSome
 | _=>false
def Gh.hand (G:Gh) (d:Nat) (l:List Operand) (m:Bool):Gh:={ G with own:=fun b=>(G.own b).map (giveT d l),live:=fun k=>G.live k∨(m=true∧k=(d+1,deepK)),age:=fun b=>if d≤G.age b then d+1 else G.age b }
def hid:Option Tag→Bool
 | some (.at (.cell _) _)=>true
 | _=>false
def Gh.view (G:Gh) (d:Nat) (l:List Operand):Gh:={ G with own:=fun b=>if given d l (G.own b) || hid (G.own b) then some (.box (0,0)) else (G.own b).map (giveT d l) }

theorem giveT_box {d:Nat} {l:List Operand} {t:Tag} {k:Key} (h:giveT d l t=.box k):t=.box k:=by
 cases t with
 | foreign=>cases h
 | box k'=>exact h
 | «at» o q =>
  cases o with
  | slot d' t =>
   simp only [giveT] at h
   split at h
   ·split at h <;> cases h
   ·cases h
  | cell k=>cases h
  | ret=>cases h
theorem giveT_cell {d:Nat} {l:List Operand} {t:Tag} {k:Key} {q:List Nat} (h:giveT d l t=.at (.cell k) q):t=.at (.cell k) q:=by
 cases t with
 | foreign=>cases h
 | box k'=>cases h
 | «at» o q' =>
  cases o with
  | slot d' t =>
   simp only [giveT] at h
   split at h
   ·split at h <;> cases h
   ·cases h
  | cell k=>exact h
  | ret=>cases h
theorem zgr {G:Gh} {d:Nat} {l:List Operand} {m:Bool} {b:Nat}:(G.hand d l m).own b=(G.own b).map (giveT d l):=rfl

theorem hand_rn (G:Gh) (d:Nat) (l:List Operand) (m:Bool) (o:Ow) (p:List Nat) (ho:∀ q,giveT d l (.at o q)=.at o q):Rn G (G.hand d l m) o p o p :=
 ⟨fun b q hq=>⟨by rw [zgr,hq,Option.map_some,ho],rfl⟩,fun b hb=>⟨by rw [zgr,hb];rfl,Nat.le_refl _⟩,fun k hk=>⟨.inl hk,rfl,rfl⟩⟩
theorem hand_rn_arg (G:Gh) (d:Nat) (l:List Operand) (m:Bool) {t i:Nat} (ht:posOf t l 0=some i):Rn G (G.hand d l m) (.slot d t) [] (.slot (d+1) i) [] :=
 ⟨fun b q hq=>⟨by rw [zgr,hq];simp [giveT,ht],rfl⟩,fun b hb=>⟨by rw [zgr,hb];rfl,Nat.le_refl _⟩,fun k hk=>⟨.inl hk,rfl,rfl⟩⟩
theorem view_rn (G:Gh) (d:Nat) (l:List Operand) {t:Nat} (ht:posOf t l 0=none):Rn G (G.view d l) (.slot d t) [] (.slot d t) [] where
 tag b q hq:=by
  have hg:given d l (G.own b)=false:=by rw [hq];simp [given,ht]
  have hh:hid (G.own b)=false:=by rw [hq];rfl
  refine ⟨?_,rfl⟩
  show (if given d l (G.own b) || hid (G.own b) then some (Tag.box (0,0)) else (G.own b).map (giveT d l))=_
  rw [hg,hh,hq]
  simp [giveT,ht]
 nil b hb:=⟨by
  show (if given d l (G.own b) || hid (G.own b) then some (Tag.box (0,0)) else (G.own b).map (giveT d l))=_
  rw [hb]
  rfl,Nat.le_refl _⟩
 live k hk:=⟨hk,rfl,rfl⟩

def markMem (m:Bool) (d:Nat) (mem:Mem):Mem:=if m then upd mem (d+1,deepK) (some []) else mem
theorem MemOK.hand {d N:Nat} {G:Gh} {σ:St} {tm:Array Value} {w:World} (hS:Sim d N G σ tm w) (l:List Operand) (m:Bool):MemOK (d+1) (G.hand d l m) (markMem m d σ.killB.mem) w:=by
 have h:=hS.killB.memOK
 have h0:=hS.memOK
 have own:∀ b t,(G.hand d l m).own b=some t→∃ t0,G.own b=some t0∧giveT d l t0=t:=fun b t hb=>by
  rw [zgr,Option.map_eq_some_iff] at hb
  exact hb
 refine { cells:=fun k cs hk hn2=>?_,live:=fun k=>?_,dep:=fun k hk=>?_,wf:=fun b t hb=>?_,wfb:=fun b k hb=>?_,wfc:=fun b k p hb=>?_,age:=fun b=>?_,fut:=fun b hb=>?_,aged:=fun b t hb=>?_ }
 ·have hk0:σ.killB.mem k=some cs:=by
   unfold markMem at hk
   split at hk
   ·unfold upd at hk
    split at hk
    ·cases hk;exact absurd rfl hn2
    ·exact hk
   ·exact hk
  have hk':(σ.mem k).map (List.map C.killB)=some cs:=hk0
  rw [Option.map_eq_some_iff] at hk'
  obtain ⟨cs0,hc0,rfl⟩:=hk'
  obtain ⟨arr,e,h1,h2,h3,h4⟩:=h0.cells k cs0 hc0 (by rintro rfl;exact hn2 rfl)
  exact ⟨arr,e,h1,by rw [zgr];show (G.own (G.β k)).map _=_;rw [h2];rfl,h3,by rw [List.length_map];exact zgt (fun j=>hand_rn G d l m _ _ fun q=>rfl) h4⟩
 ·show (G.live k∨(m=true∧k=(d+1,deepK))) ↔ _
  unfold markMem
  cases m with
  | false=>simp only [Bool.false_eq_true,false_and,or_false,if_false];exact h.live k
  | true =>
   simp only [true_and,if_true,upd]
   by_cases hk:k=(d+1,deepK)
   ·simp [hk]
   ·simp only [hk,or_false,if_false];exact h.live k
 ·rcases hk with hk | ⟨_,rfl⟩
  ·exact Nat.le_succ_of_le (h.dep k hk)
  ·exact Nat.le_refl _
 ·obtain ⟨t0,h1,_⟩:=own b t hb
  exact h.wf b t0 h1
 ·obtain ⟨t0,h1,h2⟩:=own b _ hb
  obtain ⟨h3,h4⟩:=h.wfb b k (by rw [h1,giveT_box h2])
  exact ⟨.inl h3,h4⟩
 ·obtain ⟨t0,h1,h2⟩:=own b _ hb
  exact .inl (h.wfc b k p (by rw [h1,giveT_cell h2]))
 ·show (if d≤G.age b then d+1 else G.age b)≤d+1
  have:=h.age b
  split <;> omega
 ·show (if d≤G.age b then d+1 else G.age b)=d+1
  rw [if_pos (Nat.le_of_eq (h.fut b hb).symm)]
 ·obtain ⟨t0,h1,rfl⟩:=own b _ hb
  have ha:=h.aged b t0 h1
  have hle:=h.age b
  show (giveT d l t0).dep (d+1)≤if d≤G.age b then d+1 else G.age b
  have up:∀ x,x≤G.age b→x≤if d≤G.age b then d+1 else G.age b:=fun x hx=>by split <;> omega
  cases t0 with
  | foreign=>exact Nat.zero_le _
  | box k=>exact up _ ha
  | «at» o q =>
   cases o with
   | ret=>exact Nat.zero_le _
   | cell k=>exact up _ ha
   | slot d' t =>
    have ha:d'≤G.age b:=ha
    by_cases hd:d'=d
    ·subst hd
     cases hp:posOf t l 0 with
     | none =>
      have e:giveT d' l (.at (.slot d' t) q)=.at (.slot d' t) q:=by simp [giveT,hp]
      rw [e]
      exact up _ ha
     | some i =>
      have e:giveT d' l (.at (.slot d' t) q)=.at (.slot (d' + 1) i) q:=by simp [giveT,hp]
      rw [e]
      show d' + 1≤_
      rw [if_pos (show d'≤G.age b from ha)]
      exact Nat.le_refl _
    ·have e:giveT d l (.at (.slot d' t) q)=.at (.slot d' t) q:=by simp [giveT,hd]
     rw [e]
     exact up _ ha
theorem hand_jump {d:Nat} {G:Gh} {l:List Operand} {m:Bool}:(G.hand d l m).live (d+1,deepK)→∀ b,(G.hand d l m).age b+1≠d+1:=fun _ b=>by
 show (if d≤G.age b then d+1 else G.age b)+1≠d+1
 split <;> omega

theorem caps_killB {σ:St} {x:Operand} {k:Nat} {caps:List AV} (hc:calleeOf σ.env x=some (k,caps)):∀ y∈caps,∃ K off,y=.one (.ptr K off):=by
 unfold calleeOf at hc
 split at hc
 ·simp only [Option.some.injEq,Prod.mk.injEq] at hc
  obtain ⟨_,rfl⟩:=hc
  intro y hy
  obtain ⟨c,_,rfl⟩:=List.mem_map.1 hy
  exact ⟨_,_,rfl⟩
 ·cases hc
theorem znr {P:Program} {d N:Nat} {o:Oper} {σ:St} (hd:o.dst.all (· < N)=true) {x:Operand} {args:Array Operand} {argTypes:Array TypeId} (ho:o.op=.call { callee:=.value x,args,argTypes })
 {k:Nat} {caps:List AV} (m:Bool) (hc:calleeOf σ.env x=some (k,caps)) (hnd:nodupA args.toList=true) {r:AV} {mem':Mem} (hcall:(∀ k,(σ.killB.mem k).isSome=true→k.1≤d)→CallE P d k ((args.toList.map fun y=>(opnd σ.env y).killB) ++ caps) (markMem m d σ.killB.mem) mem' r) :
 StepOK P d N o σ { env:=putD (gaveEnv args.toList σ.env) o.dst r,mem:=mem' }:=by
 intro G w a K Q hS hK
 obtain ⟨vs,hv,hcap⟩:=znv hS hc
 have hM0:=hS.memOK
 obtain ⟨hE,hcalls⟩:=hcall fun k hk=>hM0.dep k ((hM0.live k).2 (by
  have:((σ.mem k).map (List.map C.killB)).isSome=true:=hk
  rwa [Option.isSome_map] at this))
 have hA:∀ (i:Nat) x,((args.toList.map fun y=>(opnd σ.env y).killB) ++ caps)[i]?=some x→∃ v,(args.map a.eval ++ vs)[i]?=some v∧RA w (G.hand d args.toList m) (.slot (d+1) i) x v:=by
  intro i x hi
  by_cases hlt:i < args.size
  ·rw [List.getElem?_append_left (by simpa using hlt),List.getElem?_map] at hi
   cases hq:args.toList[i]? with
   | none=>rw [hq] at hi;cases hi
   | some y =>
    rw [hq] at hi
    simp only [Option.map_some,Option.some.injEq] at hi
    subst hi
    have hq':args[i]?=some y:=by rw [← Array.getElem?_toList];exact hq
    refine ⟨a.eval y,by rw [Array.getElem?_append_left (by simpa using hlt),Array.getElem?_map,hq'];rfl,?_⟩
    rcases zng hnd hq with ⟨t,rfl⟩|⟨v,rfl⟩
    ·exact (hand_rn_arg G d _ m (znb hnd hq)).ra (hS.opnd (.tmp t))
    ·exact (Rn.same _ _ []).ra (zjj v)
  ·rw [List.getElem?_append_right (by simpa using hlt)] at hi
   simp only [List.length_map,Array.length_toList] at hi
   obtain ⟨v,h1,h2⟩:=hcap.2 (i - args.size) x hi
   refine ⟨v,by rw [Array.getElem?_append_right (by simpa using hlt)];simpa using h1,?_⟩
   obtain ⟨K,off,rfl⟩:=caps_killB hc x (List.mem_of_getElem? hi)
   obtain ⟨h3,h4⟩:=h2 d 0
   exact ⟨.inl h3,h4⟩
 have hC:=hcalls (G.hand d args.toList m) w (args.map a.eval ++ vs) (by simp [hcap.1]) hA (MemOK.hand hS args.toList m) hand_jump
 obtain ⟨dst,op,ty,pos,after,guard⟩:=o
 simp only at ho hd ⊢
 subst ho
 unfold Oper.wp
 rw [zol hv hE]
 show Calls P k (args.map a.eval ++ vs) w _
 refine hC.mono fun e w' he=>?_
 obtain ⟨v,G',rfl,hR,hM,hF⟩:=he
 simp only
 have hold:∀ b,d≤G.age b→(G.hand d args.toList m).age b=d+1:=fun b hb=>if_pos hb
 have hyo:∀ b,¬ d≤G.age b→(G.hand d args.toList m).age b=G.age b:=fun b hb=>if_neg hb
 have hlt:∀ b,¬ d≤G.age b→b < w.heap.size:=fun b hb=>by
  rcases Nat.lt_or_ge b w.heap.size with h | h
  ·exact h
  ·exact absurd (Nat.le_of_eq (hS.fut b h).symm) hb
 have hbox:∀ b,(∀ k,G.own b≠some (.box k))→∀ k,(G.hand d args.toList m).own b≠some (.box k):=fun b hk k hh=>by
  rw [zgr,Option.map_eq_some_iff] at hh
  obtain ⟨t,ht,h2⟩:=hh
  exact hk k (by rw [ht,giveT_box h2])
 have hback:∀ k,k.1 < d+1→G'.live k→G.live k∨adoptK≤k.2:=fun k hk hl=>by
  rcases hF.back k hk hl with (h | ⟨_,h⟩) | h
  ·exact .inl h
  ·rw [h] at hk;exact absurd hk (Nat.lt_irrefl _)
  ·exact .inr h
 have hFd:Frm d G w G' w' :=
  {size:=hF.size,kept:=hF.kept
   age:=fun b hb ha=>by
    have h1:=hyo b (by omega)
    rw [hF.age b hb (by rw [h1];omega),h1]
   box:=fun b hb ha hk=>hF.box b hb (by rw [hyo b (by omega)];omega) (hbox b hk)
   use:=fun b hb ha=>hF.use b hb (by rw [hyo b (by omega)];omega)
   cell:=fun b off hb ha hk hu=>hF.cell b off hb (by rw [hyo b (by omega)];omega) (hbox b hk) hu
   live:=fun k hk hkd=>hF.live k (.inl hk) (by omega)
   back:=fun k hk hl=>hback k (by omega) hl
   up:=fun b hb=>by
    by_cases hge:d≤G.age b
    ·have:=hF.up b (by rw [hold b hge];omega)
     omega
    ·rw [hF.age b (hlt b hge) (by rw [hyo b hge];omega),hyo b hge]
     exact hb
   same:=fun b hb ht=>by
    have e1:(G.hand d args.toList m).own b=G.own b∧¬ touch (d+1) (G.own b):=by
     rw [zgr]
     cases hg:G.own b with
     | none=>exact ⟨rfl,fun h=>h⟩
     | some t =>
      rw [hg] at ht
      cases t with
      | foreign=>exact ⟨rfl,fun h=>h⟩
      | box k=>exact absurd trivial ht
      | «at» o q =>
       cases o with
       | cell k=>exact absurd trivial ht
       | ret=>exact absurd trivial ht
       | slot d' t' =>
        have hlt:¬ d≤d':=ht
        refine ⟨by simp only [Option.map_some,giveT];rw [if_neg (by omega)],fun hh=>?_⟩
        have:d+1≤d':=hh
        omega
    have:=hF.same b hb (by rw [e1.1];exact e1.2)
    exact ⟨this.1,this.2.1.trans e1.1,this.2.2⟩ }
 have hH:∀ t,Hands w (G.view d args.toList) w' G' (.slot d t) [] (.slot d t) [] fun _=>false:=fun t=>by
  have hview:∀ b,b < w.heap.size→(∀ k,(G.view d args.toList).own b≠some (.box k))→(G.hand d args.toList m).own b=(G.view d args.toList).own b∧w'.heap[b]?=w.heap[b]?∧G'.own b=(G.view d args.toList).own b∧G'.use b=G.use b:=fun b hb hk=>by
   have hgh:(given d args.toList (G.own b) || hid (G.own b))=false:=by
    cases hg:(given d args.toList (G.own b) || hid (G.own b)) with
    | true =>
     have:=hk (0,0)
     simp only [Gh.view,hg,if_true] at this
     exact absurd rfl this
    | false=>rfl
   have he:(G.hand d args.toList m).own b=(G.view d args.toList).own b:=by simp only [Gh.view,Gh.hand,hgh,Bool.false_eq_true,if_false]
   rw [Bool.or_eq_false_iff] at hgh
   have hnt:¬ touch (d+1) ((G.hand d args.toList m).own b):=by
    have hk2:=hk
    rw [← he] at hk2
    rw [zgr] at hk2 ⊢
    cases ho:G.own b with
    | none=>exact fun h=>h
    | some t0 =>
     rw [ho] at hk2
     have hag:=hS.aged b t0 ho
     have hle:=hS.age b
     cases t0 with
     | foreign=>exact fun h=>h
     | box k=>exact absurd rfl (hk2 k)
     | «at» o q =>
      cases o with
      | ret=>exact fun h=>h
      | cell k=>rw [ho] at hgh;exact absurd hgh.2 (by simp [hid])
      | slot d' t' =>
       have hag:d'≤G.age b:=hag
       have hgv:=hgh.1
       rw [ho] at hgv
       have e:giveT d args.toList (.at (.slot d' t') q)=.at (.slot d' t') q:=by
        simp only [giveT]
        split
        ·rename_i hd'
         cases hp:posOf t' args.toList 0 with
         | none=>rfl
         | some i=>simp [given,hd',hp] at hgv
        ·rfl
       rw [Option.map_some,e]
       intro hh
       have:d+1≤d':=hh
       omega
   have:=hF.same b hb hnt
   exact ⟨he,this.1,this.2.1.trans he,this.2.2⟩
  exact {
   tag:=fun b q hb ht=>by
    obtain ⟨_,h2,h3,h4⟩:=hview b hb (by rw [ht];simp)
    exact ⟨h3.trans ht,h4,h2⟩
   nil:=fun b hb hn=>by
    obtain ⟨_,h2,h3,h4⟩:=hview b hb (by rw [hn];simp)
    exact h3.trans hn
   nilh:=fun b hb hn=>(hview b hb (by rw [hn];simp)).2.1
   box:=fun b hb hk=>by
    obtain ⟨_,h2,h3,h4⟩:=hview b hb hk
    rw [h3];exact hk
   use:=fun b hb hk=>by
    obtain ⟨_,h2,h3,h4⟩:=hview b hb hk
    exact Nat.le_of_eq h4.symm
   cell:=fun b off hb hk hu=>by
    obtain ⟨_,h2,h3,h4⟩:=hview b hb hk
    exact World.cell?_of_block h2
   live:=fun k hk _=>hF.live k (.inl hk) (by have:=hM0.dep k hk;omega) }
 have henv:∀ t,RA w' G' (.slot d t) (gaveEnv args.toList σ.env t) (a.tmps.getD t undef):=fun t=>by
  unfold gaveEnv
  cases hp:posOf t args.toList 0 with
  | some i=>exact trivial
  | none=>exact (hH t).ra0 ((view_rn G d args.toList hp).ra (hS.env t))
 have hjump:G'.live (d,deepK)→∀ b,G'.age b+1≠d:=fun hl b=>by
  have h0:=hS.jump ((hback _ (Nat.lt_succ_self d) hl).resolve_right (show ¬ adoptK≤deepK by decide)) b
  by_cases hge:d≤G.age b
  ·have:=hF.up b (by rw [hold b hge];omega)
   omega
  ·rw [hF.age b (hlt b hge) (by rw [hyo b hge];omega),hyo b hge]
   exact h0
 have hS1:Sim d N G' { env:=gaveEnv args.toList σ.env,mem:=mem' } a.tmps w':=hM.sim hS.sz henv hjump
 have hdef:(a.put dst v).defers=a.defers:=by cases dst <;> rfl
 cases dst with
 | none=>exact hK G' _ w' hS1 hFd hdef
 | some t =>
  have hφ:RenOK d (mvT .ret (.slot d t)):=mvT_ok trivial (Nat.le_refl d)
  have hS2:=hS1.ren hφ (gaveEnv args.toList σ.env) mem' (fun t2=>.inr ⟨rfl,fun q=>by simp [mvT]⟩) (Sim.memSame (σ:={ env:=gaveEnv args.toList σ.env,mem:=mem' }) _ fun k q=>by simp [mvT]) (fun o p k q hq=>by
   left
   simp only [mvT] at hq
   split at hq
   ·cases hq
   ·simp only [Tag.at.injEq] at hq;exact ⟨k,hq.1,rfl⟩)
  have hR2:RA w' (Ev.ren G' (mvT .ret (.slot d t))) (.slot d t) r v:=(hφ.hands G' w' (p:=[]) (p':=[]) fun q=>by simp [mvT]).ra0 hR
  have hS3:=hS2.put (a:=a) (dst:=some t) hd (v:=r) (r:=v) fun t' ht'=>by cases ht';exact hR2
  exact hK _ _ w' hS3 (hFd.trans (hφ.frm G' w')) hdef

end Go.Ev


namespace Go.Ev
def inSlot (d:Nat):Option Tag→Bool
 | some (.at (.slot e _) _)=>decide (e=d+1)
 | _=>false
def CallB (P:Program) (f:Nat) (args:List AV) (cs:List C):Prop :=
 Enters P f∧∀ (G:Gh) (w:World) (vals:Array Value),vals.size=args.length→(∀ (i:Nat) x,args[i]?=some x→∃ v,vals[i]?=some v∧RA w G (.slot 1 i) x v)→MemOK 1 G (fun _=>none) w→(∀ b t,G.own b=some t→t=.foreign)→(∀ b,b < w.heap.size→G.age b=0) →
  Calls P f vals w fun e w'=>∃ b G',e=.returned (.pointer (some ⟨b,0,none⟩))∧w.heap.size≤b∧(∃ arr el,w'.heap[b]?=some (.cells arr el (0,0))∧RCs w' G' (.cell (0,0)) [] 0 cs (arr.toList.take cs.length))∧G'.own b≠none∧(∀ x t,G'.own x=some t→x < w'.heap.size)∧Frm 1 G w G' w'
theorem lend_shr:∀ {x:AV},x.shr?=true→x.lend=some x:=by
 have one:∀ c:C,c.shr?=true→c.lend=some c:=fun c h=>by
  cases c with
  | s v=>rfl
  | l m n cs=>cases m <;> first | rfl | simp [C.shr?] at h
  | _=>simp [C.shr?] at h
 intro x h
 cases x with
 | one c=>simp only [AV.lend,one c h,Option.map_some]
 | ag cs =>
  have:∀ l:List C,(∀ c∈l,c.shr?=true)→l.mapM C.lend=some l:=by
   intro l
   induction l with
   | nil=>intro _;rfl
   | cons c l ih =>
    intro hl
    rw [List.mapM_cons,one c (hl c (List.mem_cons_self ..)),ih fun c hc=>hl c (List.mem_cons_of_mem _ hc)]
    rfl
  simp only [AV.shr?,List.all_eq_true] at h
  simp only [AV.lend,this cs h,Option.map_some]
 | tu vs=>simp [AV.shr?] at h
theorem zjl {w:World} {G G0:Gh} {o o':Ow} {p p':List Nat} {c:C} {v:Value} (hs:c.shr?=true) (hn:∀ b,G.own b=none→G0.own b=none∧G.use b≤G0.use b) (h:RC w G o p c v):RC w G0 o' p' c v:=by
 cases c with
 | s u=>exact h
 | l m n cs =>
  cases m <;> simp only [C.shr?,Bool.false_eq_true] at hs
  exact RD_shr hn h
 | _=>simp [C.shr?] at hs
theorem box_call {P:Program} {f:Nat} {args:List AV} {cs:List C} (h:CallB P f args cs) (hcs:cs.all C.shr?=true) (hk:args.all AV.shr?=true) {d K:Nat} {mem:Mem} (hK:adoptK≤K)
 (hdep:∀ k,(mem k).isSome=true→k.1≤d) (hB:∀ k,(mem k).map (List.map C.killB)=mem k) (hnone:mem (d,K)=none):CallE P d f args mem (upd mem (d,K) (some cs)) (.one (.ptr (d,K) 0)):=by
 refine ⟨h.1,fun G w vals hsz hargs hM _=>?_⟩
 let G0:Gh:={ own:=fun b=>(G.own b).map fun _=>.foreign,use:=G.use,β:=G.β,live:=fun _=>False,age:=fun b=>if b < w.heap.size then 0 else 1,cap:=G.cap }
 have hfor:∀ b t,G0.own b=some t→t=.foreign:=fun b t hb=>by
  have hb:(G.own b).map (fun _=>Tag.foreign)=some t:=hb
  rw [Option.map_eq_some_iff] at hb
  obtain ⟨_,_,rfl⟩:=hb
  rfl
 have hM0:MemOK 1 G0 (fun _=>none) w:={
  cells:=fun k cs hk=>by cases hk
  live:=fun k=>⟨fun hh=>hh.elim,fun hh=>by cases hh⟩
  dep:=fun k hk=>hk.elim
  wf:=fun b t hb=>by
   have hb:(G.own b).map (fun _=>Tag.foreign)=some t:=hb
   rw [Option.map_eq_some_iff] at hb
   obtain ⟨t0,h0,_⟩:=hb
   exact hM.wf b t0 h0
  wfb:=fun b k hb=>by cases hfor b _ hb
  wfc:=fun b k p hb=>by cases hfor b _ hb
  age:=fun b=>by show (if b < w.heap.size then 0 else 1)≤1;split <;> omega
  fut:=fun b hb=>by show (if b < w.heap.size then 0 else 1)=1;rw [if_neg (by omega)]
  aged:=fun b t hb=>by rw [hfor b t hb];exact Nat.zero_le _ }
 have hargs0:∀ (i:Nat) x,args[i]?=some x→∃ v,vals[i]?=some v∧RA w G0 (.slot 1 i) x v:=fun i x hi=>by
  obtain ⟨v,hv,hra⟩:=hargs i x hi
  have hs:x.shr?=true:=by rw [List.all_eq_true] at hk;exact hk x (List.mem_of_getElem? hi)
  exact ⟨v,hv,RA_lend (lend_shr hs) hra (.inr ⟨hs,fun b hb=>⟨by show (G.own b).map _=none;rw [hb];rfl,Nat.le_refl _⟩⟩)⟩
 refine (h.2 G0 w vals hsz hargs0 hM0 hfor fun b hb=>if_pos hb).mono fun e w' he=>?_
 obtain ⟨b,G1,rfl,hb,⟨arr,el,harr,hrc⟩,hbo,hwf,hF⟩:=he
 have hsame:∀ x,x < w.heap.size→w'.heap[x]?=w.heap[x]?∧G1.own x=(G.own x).map (fun _=>.foreign)∧G1.use x=G.use x:=fun x hx=>hF.same x hx (by
  cases ho:G0.own x with
  | none=>exact fun h=>h
  | some t=>rw [hfor x t ho];exact fun h=>h)
 have hbw:b < w'.heap.size:=by
  rcases Nat.lt_or_ge b w'.heap.size with h | h
  ·exact h
  ·rw [Array.getElem?_eq_none h] at harr;cases harr
 have hnl:¬ G.live (d,K):=fun hl=>by have:=(hM.live _).1 hl;rw [hnone] at this;cases this
 let own':Nat→Option Tag:=fun x=>if x=b then some (.box (d,K)) else if x < w.heap.size then (if inSlot d (G.own x) then some .foreign else G.own x) else (G1.own x).map fun _=>.foreign
 let G':Gh:={ own:=own',use:=G1.use,β:=upd G.β (d,K) b,live:=fun k=>k=(d,K)∨G.live k,age:=fun x=>min (G.age x) d,cap:=upd G.cap (d,K) arr.size }
 have hself:G'.own b=some (.box (d,K)):=by show own' b=_;simp only [own',if_true]
 have hold:∀ x,x < w.heap.size→inSlot d (G.own x)=false→G'.own x=G.own x:=fun x hx hh=>by
  have hne:x≠b:=by omega
  show own' x=_
  simp only [own',hne,if_false,hx,if_true,hh,Bool.false_eq_true]
 have hcase:∀ x t,G'.own x=some t→(x=b∧t=.box (d,K))∨(x < w.heap.size∧inSlot d (G.own x)=false∧G.own x=some t)∨t=.foreign:=fun x t hx=>by
  have hx:own' x=some t:=hx
  simp only [own'] at hx
  split at hx
  ·rename_i he;exact .inl ⟨he,(Option.some.inj hx).symm⟩
  ·split at hx
   ·rename_i hlt
    split at hx
    ·exact .inr (.inr (Option.some.inj hx).symm)
    ·rename_i hh;exact .inr (.inl ⟨hlt,by simpa using hh,hx⟩)
   ·rw [Option.map_eq_some_iff] at hx
    obtain ⟨_,_,rfl⟩:=hx
    exact .inr (.inr rfl)
 have hbe:∀ k,G.live k→upd G.β (d,K) b k=G.β k∧upd G.cap (d,K) arr.size k=G.cap k:=fun k hk=>by
  have:k≠(d,K):=by rintro rfl;exact hnl hk
  unfold upd
  rw [if_neg this,if_neg this]
  exact ⟨rfl,rfl⟩
 have hnn:∀ x,G1.own x=none→G'.own x=none∧G1.use x≤G'.use x:=fun x hx=>by
  refine ⟨?_,Nat.le_refl _⟩
  have hne:x≠b:=by rintro rfl;exact hbo hx
  show own' x=none
  simp only [own',hne,if_false]
  split
  ·rename_i hlt
   have:=(hsame x hlt).2.1
   rw [hx] at this
   cases ho:G.own x with
   | none=>rfl
   | some t=>rw [ho] at this;cases this
  ·rw [hx];rfl
 have hF':Frm (d+1) G w G' w':={
  size:=hF.size
  kept:=hF.kept
  same:=fun x hx ht=>by
   have hh:inSlot d (G.own x)=false:=by
    cases ho:G.own x with
    | none=>rfl
    | some t =>
     rw [ho] at ht
     cases t with
     | foreign=>rfl
     | box k=>rfl
     | «at» o p =>
      cases o with
      | slot e i =>
       have:¬ d+1≤e:=ht
       simp only [inSlot,decide_eq_false_iff_not]
       omega
      | cell k=>rfl
      | ret=>rfl
   exact ⟨(hsame x hx).1,hold x hx hh,(hsame x hx).2.2⟩
  age:=fun x hx ha=>by show min (G.age x) d=G.age x;omega
  box:=fun x hx ha hk k hb2=>by
   rcases hcase x _ hb2 with ⟨h1,_⟩|⟨_,_,h1⟩ | h1
   ·omega
   ·exact hk k h1
   ·cases h1
  use:=fun x hx ha=>by show G.use x≤G1.use x;rw [(hsame x hx).2.2];exact Nat.le_refl _
  cell:=fun x off hx ha hk hu=>by unfold World.cell?;simp only [(hsame x hx).1]
  live:=fun k hk _=>⟨.inr hk,hbe k hk⟩
  back:=fun k _ hk=>hk.elim (fun h=>.inr (by rw [h];exact hK)) .inl
  up:=fun x hx=>by show d+1≤min (G.age x) d+1;omega }
 refine ⟨_,G',rfl,⟨.inl rfl,by show _=Value.pointer (some ⟨upd G.β (d,K) b (d,K),0,none⟩);simp [upd]⟩,?_,hF'⟩
 have hview:∀ k,Hands w { G with own:=fun x=>if inSlot d (G.own x) then some (Tag.box (0,0)) else G.own x } w' G' (.cell k) [] (.cell k) [] fun _=>false:=fun k=>by
  have hv:∀ x,(∀ k,(if inSlot d (G.own x) then some (Tag.box (0,0)) else G.own x)≠some (.box k))→inSlot d (G.own x)=false∧(if inSlot d (G.own x) then some (Tag.box (0,0)) else G.own x)=G.own x:=fun x hb=>by
   cases hh:inSlot d (G.own x) with
   | true=>have:=hb (0,0);rw [hh,if_pos rfl] at this;exact absurd rfl this
   | false=>exact ⟨rfl,by simp⟩
  refine { tag:=fun x q hx ht=>?_,nil:=fun x hx hn=>?_,nilh:=fun x hx _=>(hsame x hx).1,box:=fun x hx hk k2 hb2=>?_,use:=fun x hx hk=>?_,cell:=fun x off hx hk hu=>?_,live:=fun k hk _=>⟨.inr hk,hbe k hk⟩ }
  ·obtain ⟨hh,he⟩:=hv x (by have ht:(if inSlot d (G.own x) then some (Tag.box (0,0)) else G.own x)=_:=ht;rw [ht];simp)
   have ht:(if inSlot d (G.own x) then some (Tag.box (0,0)) else G.own x)=_:=ht
   rw [he] at ht
   exact ⟨(hold x hx hh).trans ht,(hsame x hx).2.2,(hsame x hx).1⟩
  ·obtain ⟨hh,he⟩:=hv x (by have hn:(if inSlot d (G.own x) then some (Tag.box (0,0)) else G.own x)=_:=hn;rw [hn];simp)
   have hn:(if inSlot d (G.own x) then some (Tag.box (0,0)) else G.own x)=_:=hn
   rw [he] at hn
   exact (hold x hx hh).trans hn
  ·obtain ⟨hh,he⟩:=hv x hk
   rw [hold x hx hh] at hb2
   exact hk k2 (by rw [show ({ G with own:=fun x=>if inSlot d (G.own x) then some (Tag.box (0,0)) else G.own x }:Gh).own x=_ from he];exact hb2)
  ·show G.use x≤G1.use x
   rw [(hsame x hx).2.2]
   exact Nat.le_refl _
  ·unfold World.cell?
   simp only [(hsame x hx).1]
 have hrn:∀ k p,Rn G { G with own:=fun x=>if inSlot d (G.own x) then some (Tag.box (0,0)) else G.own x } (.cell k) p (.cell k) p:=fun k p =>
  ⟨fun x q hq=>⟨by show (if inSlot d (G.own x) then some (Tag.box (0,0)) else G.own x)=_;rw [hq];rfl,rfl⟩,fun x hb=>⟨by show (if inSlot d (G.own x) then some (Tag.box (0,0)) else G.own x)=_;rw [hb];rfl,Nat.le_refl _⟩,fun k hk=>⟨hk,rfl,rfl⟩⟩
 exact {
  cells:=fun k cs2 hk2 hn2=>by
   by_cases hkk:k=(d,K)
   ·subst hkk
    simp only [upd,if_true,Option.some.injEq] at hk2
    subst hk2
    have e1:upd G.β (d,K) b (d,K)=b:=by simp [upd]
    refine ⟨arr,el,by rw [show G'.β (d,K)=b from e1];exact harr,by rw [show G'.β (d,K)=b from e1];exact hself,by show arr.size=upd G.cap (d,K) arr.size (d,K);simp [upd],hrc.1,fun j c hj=>?_⟩
    obtain ⟨x,hx,hr⟩:=hrc.2 j c hj
    rw [List.all_eq_true] at hcs
    exact ⟨x,hx,zjl (hcs c (List.mem_of_getElem? hj)) hnn hr⟩
   ·simp only [upd,hkk,if_false] at hk2
    obtain ⟨arr2,e2,h1,h2,h2c,h3⟩:=hM.cells k cs2 hk2 hn2
    have hl2:G.live k:=(hM.live k).2 (by rw [hk2];rfl)
    obtain ⟨e3,e4⟩:=hbe k hl2
    have hx:=hM.wf _ _ h2
    have hh:inSlot d (G.own (G.β k))=false:=by rw [h2];rfl
    refine ⟨arr2,e2,by rw [show G'.β k=G.β k from e3,← h1];exact (hsame _ hx).1,by rw [show G'.β k=G.β k from e3,← h2];exact hold _ hx hh,by rw [h2c];exact e4.symm,?_⟩
    have hcs2:cs2.map C.killB=cs2:=by
     have:=hB k
     rw [hk2] at this
     simpa using this
    have:=zgt (fun j=>hrn k ([] ++ [j])) h3
    rw [hcs2] at this
    exact (hview k).rcs0 this
  live:=fun k=>by
   show (k=(d,K)∨G.live k) ↔ _
   by_cases hkk:k=(d,K)
   ·subst hkk;simp [upd]
   ·simp only [hkk,false_or,upd,if_false];exact hM.live k
  dep:=fun k hk=>hk.elim (fun h=>by rw [h];exact Nat.le_refl d) fun h=>hdep k ((hM.live k).1 h)
  wf:=fun x t hx=>by
   rcases hcase x t hx with ⟨rfl,_⟩|⟨h1,_,_⟩ | rfl
   ·exact hbw
   ·have:=hF.size;omega
   ·have hx2:own' x=some .foreign:=hx
    rcases Nat.lt_or_ge x w.heap.size with h1 | h1
    ·have:=hF.size;omega
    ·simp only [own'] at hx2
     split at hx2
     ·cases hx2
     ·rw [if_neg (by omega),Option.map_eq_some_iff] at hx2
      obtain ⟨t0,h0,_⟩:=hx2
      exact hwf x t0 h0
  wfb:=fun x k hx=>by
   rcases hcase x _ hx with ⟨rfl,h1⟩|⟨_,_,h1⟩ | h1
   ·cases h1;exact ⟨.inl rfl,by show upd G.β (d,K) _ (d,K)=_;simp [upd]⟩
   ·obtain ⟨h2,h3⟩:=hM.wfb x k h1
    exact ⟨.inr h2,(hbe k h2).1.trans h3⟩
   ·cases h1
  wfc:=fun x k p hx=>by
   rcases hcase x _ hx with ⟨_,h1⟩|⟨_,_,h1⟩ | h1
   ·cases h1
   ·exact .inr (hM.wfc x k p h1)
   ·cases h1
  age:=fun x=>Nat.min_le_right _ _
  fut:=fun x hx=>by
   show min (G.age x) d=d
   have:=hM.fut x (Nat.le_trans hF.size hx)
   omega
  aged:=fun x t hx=>by
   show t.dep d≤min (G.age x) d
   rcases hcase x t hx with ⟨rfl,rfl⟩|⟨_,hh,h1⟩ | rfl
   ·have:=hM.fut x hb
    show d≤_
    omega
   ·have ha:=hM.aged x t h1
    cases t with
    | foreign=>exact Nat.zero_le _
    | box k =>
     have h2:=hdep k ((hM.live k).1 (hM.wfb x k h1).1)
     have ha:k.1≤G.age x:=ha
     show k.1≤_
     omega
    | «at» o p =>
     cases o with
     | slot e i =>
      have ha:e≤G.age x:=ha
      have hle:=hM.age x
      rw [h1] at hh
      simp only [inSlot,decide_eq_false_iff_not] at hh
      show e≤_
      omega
     | cell k =>
      have h2:=hdep k ((hM.live k).1 (hM.wfc x k p h1))
      have ha:k.1≤G.age x:=ha
      show k.1≤_
      omega
     | ret =>
      have ha:d+1≤G.age x:=ha
      show d≤_
      omega
   ·exact Nat.zero_le _ }
end Go.Ev


namespace Go.Ev
def PX (P:Program) (f:Nat) (F:List C→List AV→Option (AV × List C)):Prop:=Enters P f∧∀ cs la r cs',F cs la=some (r,cs')→cs≠[]∧cs.all C.shr?=true∧cs'.all C.shr?=true∧cs'≠[]∧(r.own?=true∨r.data?=true) ∧
 CallOK P 0 f (.one (.ptr (0,0) 0) :: la) (upd (fun _=>none) (0,0) (some cs)) (upd (fun _=>none) (0,0) (some cs')) r
theorem PX.call {P:Program} {f:Nat} {F:List C→List AV→Option (AV × List C)} (h:PX P f F) {d:Nat} {K:Key} {args:List AV} {mem:Mem} {cs cs':List C} {r:AV} (hk:mem K=some cs) (hl:args.all AV.shr?=true) (hF:F cs args=some (r,cs')) :
 CallOK P d f (.one (.ptr K 0) :: args) mem (upd mem K (some cs')) r:=by
 refine ⟨h.1,fun G w vals hA hM=>?_⟩
 obtain ⟨hne,hs1,hs2,hne',hro,hC⟩:=h.2 cs args r cs' hF
 obtain ⟨arr,el,hb1,hb2,hb3,hb4⟩:=hM.cells K cs hk hne
 have hb0:G.β K < w.heap.size:=hM.wf _ _ hb2
 let G0:Gh:={ own:=fun b=>if b=G.β K then some (.box (0,0)) else (G.own b).map fun _=>.foreign,use:=G.use,β:=fun _=>G.β K,live:=fun k=>k=(0,0),age:=fun _=>0,cap:=fun _=>G.cap K }
 have h00:G0.own (G.β K)=some (.box (0,0)):=if_pos rfl
 have h01:∀ b,b≠G.β K→G0.own b=(G.own b).map fun _=>.foreign:=fun b hb=>if_neg hb
 have hn0:∀ b,G.own b=none→G0.own b=none∧G.use b≤G0.use b:=fun b hb=>by
  refine ⟨?_,Nat.le_refl _⟩
  have:b≠G.β K:=by rintro rfl;rw [hb2] at hb;cases hb
  rw [h01 b this,hb]
  rfl
 have hcase:∀ b t,G0.own b=some t→(b=G.β K∧t=.box (0,0))∨(b < w.heap.size∧t=.foreign):=fun b t hb=>by
  by_cases hbb:b=G.β K
  ·subst hbb;rw [h00] at hb;exact .inl ⟨rfl,(Option.some.inj hb).symm⟩
  ·rw [h01 b hbb,Option.map_eq_some_iff] at hb
   obtain ⟨t0,h0,rfl⟩:=hb
   exact .inr ⟨hM.wf b t0 h0,rfl⟩
 have hM0:MemOK 0 G0 (upd (fun _=>none) (0,0) (some cs)) w:={
  cells:=fun k cs1 hk1 hn1=>by
   by_cases hkk:k=(0,0)
   ·subst hkk
    simp only [upd,if_true,Option.some.injEq] at hk1
    subst hk1
    refine ⟨arr,el,hb1,h00,hb3,hb4.1,fun j c hj=>?_⟩
    obtain ⟨x,hx,hr⟩:=hb4.2 j c hj
    rw [List.all_eq_true] at hs1
    exact ⟨x,hx,zjl (hs1 c (List.mem_of_getElem? hj)) hn0 hr⟩
   ·simp only [upd,hkk,if_false] at hk1;cases hk1
  live:=fun k=>by
   show k=(0,0) ↔ _
   by_cases hkk:k=(0,0)
   ·subst hkk;simp [upd]
   ·simp [upd,hkk]
  dep:=fun k hk=>by have:k=(0,0):=hk;subst this;exact Nat.le_refl _
  wf:=fun b t hb=>(hcase b t hb).elim (fun h=>h.1 ▸ hb0) (·.1)
  wfb:=fun b k hb=>by
   rcases hcase b _ hb with ⟨h1,h2⟩|⟨_,h2⟩
   ·cases h2;exact ⟨rfl,h1.symm⟩
   ·cases h2
  wfc:=fun b k p hb=>by rcases hcase b _ hb with ⟨_,h2⟩|⟨_,h2⟩ <;> cases h2
  age:=fun _=>Nat.le_refl _
  fut:=fun _ _=>rfl
  aged:=fun b t hb=>by
   rcases hcase b _ hb with ⟨_,h2⟩|⟨_,h2⟩ <;> subst h2 <;> exact Nat.zero_le _ }
 have hA0:ArgsOK w G0 (.one (.ptr (0,0) 0) :: args) vals:=by
  refine ⟨by rw [hA.1];rfl,fun i x hi=>?_⟩
  cases i with
  | zero =>
   simp only [List.getElem?_cons_zero,Option.some.injEq] at hi
   subst hi
   obtain ⟨v,hv,hra⟩:=hA.2 0 (.one (.ptr K 0)) rfl
   refine ⟨v,hv,fun e t=>?_⟩
   obtain ⟨_,h2⟩:=hra e t
   exact ⟨rfl,h2⟩
  | succ i =>
   obtain ⟨v,hv,hra⟩:=hA.2 (i+1) x hi
   have hs:x.shr?=true:=by rw [List.all_eq_true] at hl;exact hl x (List.mem_of_getElem? (by simpa using hi))
   exact ⟨v,hv,fun e t=>RA_lend (lend_shr hs) (hra e t) (.inr ⟨hs,hn0⟩)⟩
 refine (hC.2 G0 w vals hA0 hM0).mono fun e w' he=>?_
 obtain ⟨v,G1,rfl,hRA,hM1,hF1⟩:=he
 have hβ:=hF1.live (0,0) rfl (Nat.zero_lt_one)
 have hβ1:G1.β (0,0)=G.β K:=hβ.2.1
 obtain ⟨arr',e',h1',h2',h3',h4'⟩:=hM1.cells (0,0) cs' (by simp [upd]) hne'
 rw [hβ1] at h1' h2'
 rw [hβ.2.2] at h3'
 have hsame:∀ b,b < w.heap.size→b≠G.β K→w'.heap[b]?=w.heap[b]?∧G1.own b=(G.own b).map (fun _=>.foreign)∧G1.use b=G.use b:=fun b hb hne=>by
  have:=hF1.same b hb (by
   rw [h01 b hne]
   cases G.own b with
   | none=>exact fun h=>h
   | some t=>exact fun h=>h)
  rw [h01 b hne] at this
  exact this
 let own':Nat→Option Tag:=fun b=>if b < w.heap.size then G.own b else match G1.own b with
  | some (.at .ret p)=>some (.at .ret p)
  | none=>none
  | _=>some .foreign
 let G':Gh:={ own:=own',use:=G1.use,β:=G.β,live:=G.live,age:=G.age,cap:=G.cap }
 have ho:∀ b,b < w.heap.size→G'.own b=G.own b:=fun b hb=>by show own' b=_;simp only [own',hb,if_true]
 have hnew:∀ b t,G'.own b=some t→¬ b < w.heap.size→b < w'.heap.size∧(∀ k,t≠.box k)∧(∀ k p,t≠.at (.cell k) p)∧t.dep d≤d:=by
  intro b t hb hlt
  have hb:own' b=some t:=hb
  simp only [own',hlt,if_false] at hb
  cases hg:G1.own b with
  | none=>rw [hg] at hb;cases hb
  | some t0 =>
   refine ⟨hM1.wf b t0 hg,?_⟩
   rw [hg] at hb
   split at hb
   ·cases hb;exact ⟨fun k=>by simp,fun k p=>by simp,Nat.le_refl d⟩
   ·cases hb
   ·cases hb;exact ⟨fun k=>by simp,fun k p=>by simp,Nat.zero_le d⟩
 have hnb:∀ b,(∀ k,G.own b≠some (.box k))→b≠G.β K:=fun b hb=>by rintro rfl;exact hb K hb2
 have hnn:∀ b,G1.own b=none→G'.own b=none∧G1.use b≤G'.use b:=fun b hb=>by
  refine ⟨?_,Nat.le_refl _⟩
  by_cases hlt:b < w.heap.size
  ·have hne:b≠G.β K:=by rintro rfl;rw [h2'] at hb;cases hb
   have:=(hsame b hlt hne).2.1
   rw [hb] at this
   rw [ho b hlt]
   cases ho2:G.own b with
   | none=>rfl
   | some t=>rw [ho2] at this;cases this
  ·show own' b=none
   simp only [own',hlt,if_false,hb]
 have hF':Frm (d+1) G w G' w':={
  size:=hF1.size
  kept:=hF1.kept
  same:=fun b hb ht=>by
   have hne:b≠G.β K:=by rintro rfl;rw [hb2] at ht;exact ht trivial
   obtain ⟨a1,_,a3⟩:=hsame b hb hne
   exact ⟨a1,ho b hb,a3⟩
  age:=fun _ _ _=>rfl
  box:=fun b hb _ hk=>by rw [ho b hb];exact hk
  use:=fun b hb _=>hF1.use b hb Nat.zero_lt_one
  cell:=fun b off hb _ hk _=>by unfold World.cell?;simp only [(hsame b hb (hnb b hk)).1]
  live:=fun k hk _=>⟨hk,rfl,rfl⟩
  back:=fun _ _ h=>.inl h
  up:=fun _ h=>h }
 have hH:∀ o p,Hands w G w' G' o p o p fun _=>false:=fun o p=>{
  tag:=fun b q hb ht=>by
   obtain ⟨a1,_,a3⟩:=hsame b hb (hnb b fun k=>by rw [ht];simp)
   exact ⟨by rw [ho b hb];exact ht,a3,a1⟩
  nil:=fun b hb hn=>by rw [ho b hb];exact hn
  nilh:=fun b hb hn=>(hsame b hb (hnb b fun k=>by rw [hn];simp)).1
  box:=fun b hb hk=>by rw [ho b hb];exact hk
  use:=fun b hb _=>hF1.use b hb Nat.zero_lt_one
  cell:=fun b off hb hk _=>by unfold World.cell?;simp only [(hsame b hb (hnb b hk)).1]
  live:=fun k hk _=>⟨hk,rfl,rfl⟩ }
 refine ⟨v,G',rfl,RA_res hRA (fun b q hq=>?_) (hro.imp id fun h=>⟨h,hnn⟩),?_,hF'⟩
 ·have hb:¬ b < w.heap.size:=fun hb=>by
   by_cases hne:b=G.β K
   ·subst hne;rw [h2'] at hq;cases hq
   ·rw [(hsame b hb hne).2.1,Option.map_eq_some_iff] at hq
    obtain ⟨_,_,h⟩:=hq
    cases h
  exact ⟨by show own' b=_;simp only [own',hb,if_false,hq],rfl⟩
 ·exact {
   cells:=fun k cs1 hk1 hn1=>by
    by_cases hkk:k=K
    ·subst hkk
     simp only [upd,if_true,Option.some.injEq] at hk1
     subst hk1
     refine ⟨arr',e',h1',by rw [← hb2];exact ho _ hb0,h3',h4'.1,fun j c hj=>?_⟩
     obtain ⟨x,hx,hr⟩:=h4'.2 j c hj
     rw [List.all_eq_true] at hs2
     exact ⟨x,hx,zjl (hs2 c (List.mem_of_getElem? hj)) hnn hr⟩
    ·simp only [upd,hkk,if_false] at hk1
     obtain ⟨arr2,e2,h1,h2,h2c,h3⟩:=hM.cells k cs1 hk1 hn1
     have hb:=hM.wf _ _ h2
     have hne2:G.β k≠G.β K:=fun he=>by rw [he,hb2] at h2;cases h2;exact hkk rfl
     exact ⟨arr2,e2,by rw [← h1];exact (hsame _ hb hne2).1,by rw [← h2];exact ho _ hb,h2c,(hH _ _).rcs0 h3⟩
   live:=fun k=>by
    show G.live k ↔ _
    by_cases hkk:k=K
    ·subst hkk
     rw [hM.live k,hk]
     simp [upd]
    ·simp only [upd,hkk,if_false];exact hM.live k
   dep:=hM.dep
   wf:=fun b t hb=>by
    by_cases hlt:b < w.heap.size
    ·exact Nat.lt_of_lt_of_le hlt hF1.size
    ·exact (hnew b t hb hlt).1
   wfb:=fun b k hb=>by
    by_cases hlt:b < w.heap.size
    ·rw [ho b hlt] at hb;exact hM.wfb b k hb
    ·exact absurd rfl ((hnew b _ hb hlt).2.1 k)
   wfc:=fun b k p hb=>by
    by_cases hlt:b < w.heap.size
    ·rw [ho b hlt] at hb;exact hM.wfc b k p hb
    ·exact absurd rfl ((hnew b _ hb hlt).2.2.1 k p)
   age:=hM.age
   fut:=fun b hb=>hM.fut b (Nat.le_trans hF1.size hb)
   aged:=fun b t hb=>by
    by_cases hlt:b < w.heap.size
    ·rw [ho b hlt] at hb;exact hM.aged b t hb
    ·have:=(hnew b t hb hlt).2.2.2
     have h2:G'.age b=d:=hM.fut b (by omega)
     omega }
end Go.Ev

