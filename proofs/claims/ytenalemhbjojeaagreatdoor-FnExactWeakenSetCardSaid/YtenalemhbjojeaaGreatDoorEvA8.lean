import Derived.Test.YtenalemhbjojeaaGreatDoorEvA6
import Derived.Test.YtenalemhbjojeaaGreatDoorEvA7
import Derived.WalkKit
import Derived.OwnWalk
import Derived.Deep.RegionWith
import Derived.Deep.Cut
import Derived.Deep.LoopGhost
import Derived.Sort.OwnSorted
import Derived.Lib.Join
import Derived.Lib.ItoaNum
import Derived.Laws.IdiomCopy
set_option linter.unusedSimpArgs false
set_option linter.unusedVariables false
set_option linter.unnecessarySimpa false
noncomputable section
namespace Go.Ev

def takeS:Nat→Code→Code
 | n+1,.seq a b=>.seq a (takeS n b)
 | _,_=>.skip
def dropS:Nat→Code→Code
 | n+1,.seq _ b=>dropS n b
 | _,c=>c
theorem zqr {g:Cfg} {f N:Nat}:∀ {n:Nat} {c:Code},codeOK g f N c=true→codeOK g f N (takeS n c)=true∧codeOK g f N (dropS n c)=true
 | n+1,.seq a b,h=>by
  simp only [codeOK,Bool.and_eq_true] at h
  obtain ⟨h1,h2⟩:=zqr (n:=n) h.2
  exact ⟨by simp only [takeS,codeOK,h.1,h1,Bool.and_self],h2⟩
 | 0,c,h=>by
  rw [show takeS 0 c=.skip by cases c <;> rfl,show dropS 0 c=c by cases c <;> rfl]
  exact ⟨rfl,h⟩
 | n+1,.skip,h | n+1,.region ..,h | n+1,.cond ..,h | n+1,.block ..,h | n+1,.loop ..,h | n+1,.rangeFunc ..,h | n+1,.exit ..,h | n+1,.scope ..,h | n+1,.label ..,h | n+1,.goto ..,h | n+1,.ret,h | n+1,.refuse ..,h=>⟨rfl,h⟩

theorem evo_wp {g:Cfg} (hctx:CtxOK g) {d f N:Nat} {c:Code} (hc:codeOK g f N c=true) {σ:St} {out:Out} (h:evo g d f c σ=some out) {G:Gh} {w:World} {a:Act} (hS:Sim d N G σ a.tmps w) (hd:a.defers=[]):c.wp g.P (postC d N G w out) a w:=by
 unfold evo at h
 rw [zee (zet g d f c σ)] at h
 obtain ⟨n,hn⟩:=h
 exact (sound g hctx n).2 n (Nat.le_refl _) d f N c hc σ out hn G w a hS hd

theorem take_wp {g:Cfg} (hctx:CtxOK g) {d f N:Nat} {Q:Exit→Act→World→Prop}:∀ (n:Nat) (c:Code),codeOK g f N c=true→∀ σ out,evo g d f (takeS n c) σ=some out→∀ G w a,Sim d N G σ a.tmps w→a.defers=[] →
 (∀ σ1 G1 a1 w1,out=.norm σ1→Sim d N G1 σ1 a1.tmps w1→a1.defers=[]→Frm d G w G1 w1→(dropS n c).wp g.P Q a1 w1) →
 (∀ e a1 w1,e≠.normal→postC d N G w out e a1 w1→Q e a1 w1)→c.wp g.P Q a w:=by
 have base:∀ (n:Nat) (c:Code),takeS n c=.skip→dropS n c=c→∀ σ out,evo g d f (takeS n c) σ=some out→∀ G w a,Sim d N G σ a.tmps w→a.defers=[] →
  (∀ σ1 G1 a1 w1,out=.norm σ1→Sim d N G1 σ1 a1.tmps w1→a1.defers=[]→Frm d G w G1 w1→(dropS n c).wp g.P Q a1 w1)→c.wp g.P Q a w:=by
  intro n c h1 h2 σ out h G w a hS hd hN
  rw [h1,evo_skip] at h
  cases h
  have:=hN σ G a w rfl hS hd (Frm.refl _ _ _)
  rwa [h2] at this
 intro n
 induction n with
 | zero=>exact fun c _ σ out h G w a hS hd hN _=>base 0 c (by cases c <;> rfl) (by cases c <;> rfl) σ out h G w a hS hd hN
 | succ n ih =>
  intro c hc σ out h G w a hS hd hN hE
  cases c with
  | seq x y =>
   simp only [codeOK,Bool.and_eq_true] at hc
   rw [takeS,evo_seq,Option.bind_eq_some_iff] at h
   obtain ⟨o,ho,h⟩:=h
   refine wp_seq (wp_mono (evo_wp hctx hc.1 ho hS hd) fun e a' w' hp=>?_)
   cases e with
   | normal =>
    obtain ⟨h0,σ',G',rfl,hS',hF'⟩:=hp
    refine ih y hc.2 σ' out h G' w' a' hS' h0 (fun σ1 G1 a1 w1 h1 h2 h3 h4=>hN σ1 G1 a1 w1 h1 h2 h3 (hF'.trans h4)) fun e a1 w1 he hp=>hE e a1 w1 he (postC.trans hF' e a1 w1 hp)
   | exit id =>
    obtain ⟨h0,σ',G',rfl,hS',hF'⟩:=hp
    simp only [Out.then,Option.some.injEq] at h
    subst h
    exact hE _ _ _ (by simp) ⟨h0,σ',G',rfl,hS',hF'⟩
   | ret =>
    obtain ⟨h0,σ',G',rfl,hS',hF'⟩:=hp
    simp only [Out.then,Option.some.injEq] at h
    subst h
    exact hE _ _ _ (by simp) ⟨h0,σ',G',rfl,hS',hF'⟩
   | goto l=>exact hp.elim
   | panic c=>exact hp.elim
   | outgrown=>exact hp.elim
  | _=>exact base _ _ rfl rfl σ out h G w a hS hd hN

def PreOK (P:Program) (d N:Nat) (c rest:Code) (F:St→Option St):Prop:=∀ σ σ',F σ=some σ'→∀ G w (a:Act),Sim d N G σ a.tmps w→a.defers=[]→∀ Q:Exit→Act→World→Prop,
 (∀ G1 (a1:Act) w1,Sim d N G1 σ' a1.tmps w1→a1.defers=[]→Frm d G w G1 w1→rest.wp P Q a1 w1)→c.wp P Q a w

def callP (g:Cfg) (f:Nat) (c:Code) (l:List ResultVar) (n1 n2:Nat) (F:St→Option St) (args:List AV):Option (AV × Mem) :=
 finK g.P 0 l ((lookK (f,atEnd) g.gho).getD []) (evk g (0+1) f (takeS n1 c) [.pre F,.code (dropS n2 (dropS n1 c))] { env:=fun t=>(args[t]?).getD .dead,mem:=mem0 })

theorem fin_done {g:Cfg} {f:Nat} {fn:Func} {out:Out} {r:AV} {m:Mem} (h:finK g.P 0 fn.results.toList ((lookK (f,atEnd) g.gho).getD []) (some out)=some (r,m)) :
 ∃ σ' σe r0,out.done=some σ'∧ghoAt g 1 f atEnd σ'=some σe∧retVal g.P 1 fn σe=some r0∧r=r0.kill (fun k=>decide (0 < k.1))∧m=memKill (fun k=>decide (0 < k.1)) σe.mem:=by
 have hgho:∀ σ,ghoAt g 1 f atEnd σ=ghoL 1 ((lookK (f,atEnd) g.gho).getD []) σ:=by
  intro σ
  unfold ghoAt
  cases lookK (f,atEnd) g.gho <;> rfl
 have key:∀ σ,endK g.P 0 fn.results.toList (ghoL 1 ((lookK (f,atEnd) g.gho).getD []) σ)=some (r,m)→∃ σe r0,ghoAt g 1 f atEnd σ=some σe∧retVal g.P 1 fn σe=some r0∧r=r0.kill (fun k=>decide (0 < k.1))∧m=memKill (fun k=>decide (0 < k.1)) σe.mem:=by
  intro σ h
  rw [hgho]
  cases hg:ghoL 1 ((lookK (f,atEnd) g.gho).getD []) σ with
  | none=>rw [hg] at h;cases h
  | some σe =>
   rw [hg] at h
   rw [end_some] at h
   cases hr:retR g.P (0+1) fn.results.toList σe with
   | none=>rw [hr] at h;cases h
   | some r0 =>
    rw [hr,val_some,Option.some.injEq,Prod.mk.injEq] at h
    exact ⟨σe,r0,rfl,hr,h.1.symm,h.2.symm⟩
 cases out with
 | norm σ=>obtain ⟨σe,r0,h1⟩:=key σ h;exact ⟨σ,σe,r0,rfl,h1⟩
 | ret σ=>obtain ⟨σe,r0,h1⟩:=key σ h;exact ⟨σ,σe,r0,rfl,h1⟩
 | exit id σ=>cases h

theorem PC.of_pre {g:Cfg} (hctx:CtxOK g) {f n1 n2:Nat} {fn:Func} {c:Code} {F:List AV→Option AV} {F0:St→Option St} (hf:g.P.funcs[f]?=some fn) (hb:fn.body=some c) (hok:fnOK g f fn=true)
 (hpre:PreOK g.P 1 fn.ntmps (dropS n1 c) (dropS n2 (dropS n1 c)) F0) (h:∀ args r,F args=some r→args.length≤fn.ntmps∧∃ m,callP g f c fn.results.toList n1 n2 F0 args=some (r,m)):PC g.P f F:=by
 unfold fnOK at hok
 rw [hb] at hok
 simp only [Bool.and_eq_true] at hok
 obtain ⟨⟨hcode,hname⟩,_⟩:=hok
 have hE:Enters g.P f:=⟨fn,hf,by rw [hb];rfl,by simpa using hname⟩
 refine ⟨hE,fun args r hF G w vals hflat hlive hage hA=>?_⟩
 obtain ⟨hlen,m,hm⟩:=h args r hF
 have hM:MemOK 0 G mem0 w:={
  cells:=fun k cs hk=>by cases hk
  live:=fun k=>⟨fun hh=>(hlive k hh).elim,fun hh=>by cases hh⟩
  dep:=fun k hk=>(hlive k hk).elim
  wf:=fun b t hb=>(hflat b t hb).2
  wfb:=fun b k hb=>by have:=(hflat b _ hb).1;cases this
  wfc:=fun b k p hb=>by have:=(hflat b _ hb).1;cases this
  age:=fun b=>Nat.le_of_eq (hage b)
  fut:=fun b _=>hage b
  aged:=fun b t hb=>by have:=(hflat b t hb).1;subst this;exact Nat.zero_le _ }
 have hCE:CallE g.P 0 f args mem0 m r:=by
  refine ⟨hE,fun G w vals hsz hargs hM1 hj1=>?_⟩
  refine calls_of_wp hf hb ?_
  have hS:Sim (0+1) fn.ntmps G { env:=fun t=>(args[t]?).getD .dead,mem:=mem0 } (vals ++ Array.replicate (fn.ntmps - vals.size) undef) w :=
   hM1.sim (by rw [Array.size_append,Array.size_replicate,hsz];omega) (fun t=>zkt hargs t) hj1
  unfold callP evk at hm
  have fin:∀ (out:Out) (G1:Gh) (w1:World),Frm 1 G w G1 w1→finK g.P 0 fn.results.toList ((lookK (f,atEnd) g.gho).getD []) (some out)=some (r,m)→∀ e a1 w2,postC 1 fn.ntmps G1 w1 out e a1 w2 →
   bodyPost g.P fn (fun e w'=>∃ v G',e=.returned v∧RA w' G' .ret r v∧MemOK 0 G' m w'∧Frm (0+1) G w G' w') e a1 w2:=by
   intro out G1 w1 hF1 hfin
   obtain ⟨σ',σe,r0,hdone,hσe,hr0,rfl,rfl⟩:=fin_done hfin
   refine zok hdone fun σ2 G2 tm w2 h2 hS2 hF2=>?_
   rw [hdone] at h2
   cases h2
   obtain ⟨Ge,hSe,hFe⟩:=zls hS2 hσe
   obtain ⟨v,G3,hrun,hRA,hM3,hF3⟩:=hSe.returns (P:=g.P) hr0
   exact ⟨v,hrun,v,G3,rfl,hRA,hM3,((hF1.trans hF2).trans hFe).trans hF3⟩
  cases ho:evo g (0+1) f (takeS n1 c) { env:=fun t=>(args[t]?).getD .dead,mem:=mem0 } with
  | none=>rw [ho] at hm;cases hm
  | some o =>
   rw [ho,Option.bind_some] at hm
   refine take_wp hctx n1 c hcode _ o ho G w { tmps:=vals ++ Array.replicate (fn.ntmps - vals.size) undef,defers:=[] } hS rfl (fun σ1 G1 a1 w1 hn hS1 hd1 hF1=>?_) fun e a1 w1 he hp=>?_
   ·subst hn
    rw [runK] at hm
    cases hF0:F0 σ1 with
    | none=>rw [hF0] at hm;cases hm
    | some σ2 =>
     rw [hF0,Option.bind_some,r_norm,← evo_evk] at hm
     refine hpre σ1 σ2 hF0 G1 w1 a1 hS1 hd1 _ fun G2 a2 w2 hS2 hd2 hF2=>?_
     cases ho2:evo g (0+1) f (dropS n2 (dropS n1 c)) σ2 with
     | none=>rw [ho2] at hm;cases hm
     | some out =>
      rw [ho2] at hm
      exact wp_mono (evo_wp hctx (zqr (zqr hcode).2).2 ho2 hS2 hd2) (fin out G2 w2 (hF1.trans hF2) hm)
   ·cases o with
    | norm σ1 =>
     cases e with
     | normal=>exact absurd rfl he
     | exit id=>obtain ⟨_,_,_,h,_⟩:=hp;cases h
     | ret=>obtain ⟨_,_,_,h,_⟩:=hp;cases h
     | goto l=>exact hp.elim
     | panic c=>exact hp.elim
     | outgrown=>exact hp.elim
    | exit id σ1 =>
     rw [runK,runK,runK] at hm
     exact fin _ G w (Frm.refl _ _ _) hm e a1 w1 hp
    | ret σ1 =>
     rw [runK,runK,runK] at hm
     exact fin _ G w (Frm.refl _ _ _) hm e a1 w1 hp
 refine (hCE.ok.2 G w vals hA hM).mono fun e w' he=>?_
 obtain ⟨v,G',rfl,hRA,hM',hF'⟩:=he
 refine ⟨v,G',rfl,hRA,hF'.size,hF'.kept,fun b hb=>hF'.same b hb ?_,fun b t hb=>hM'.wf b t hb⟩
 cases hg:G.own b with
 | none=>exact fun h=>h
 | some t=>have:=(hflat b t hg).1;subst this;exact fun h=>h
theorem pc_of_pre {g:Cfg} {X R:Type} [Args X] [Res R] {F:X→Option R} (hctx:CtxOK g) {f n1 n2:Nat} {fn:Func} {c:Code} {F0:St→Option St} (hf:g.P.funcs[f]?=some fn) (hb:fn.body=some c) (hok:fnOK g f fn=true)
 (hpre:PreOK g.P 1 fn.ntmps (dropS n1 c) (dropS n2 (dropS n1 c)) F0) (hlen:∀ x:X,(Args.args x).length≤fn.ntmps) (h:∀ x y,F x=some y→∃ m,callP g f c fn.results.toList n1 n2 F0 (Args.args x)=some (Res.res y,m)):PC g.P f (specP F):=by
 refine PC.of_pre hctx hf hb hok hpre fun az r hr=>?_
 unfold specP at hr
 split at hr
 ·rename_i hx
  obtain ⟨y,hy,rfl⟩:=Option.map_eq_some_iff.1 hr
  have hs:=Classical.choose_spec hx
  refine ⟨?_,?_⟩
  ·rw [← hs];exact hlen _
  ·have:=h _ _ hy
   rwa [hs] at this
 ·cases hr
theorem start_pre {g:Cfg} {f:Nat} {c:Code} {n1 n2:Nat} {F0:St→Option St} {az:List AV} {r:AV} (l:List ResultVar) (h:Goal (FnEnd g.P 0 l ((lookK (f,atEnd) g.gho).getD []) r) (evk g (0+1) f (takeS n1 c) [.pre F0,.code (dropS n2 (dropS n1 c))] { env:=fun t=>(az[t]?).getD .dead,mem:=mem0 })) :
 ∃ m,callP g f c l n1 n2 F0 az=some (r,m):=h
theorem goal_pre {g:Cfg} {d f:Nat} {T:Option Out→Prop} {F:St→Option St} {K:List It} {σ σ':St} (h:F σ=some σ') (h2:Goal T (runK g d f K (.norm σ'))):Goal T (runK g d f (.pre F :: K) (.norm σ)):=by
 rw [r_pre h]
 exact h2
end Go.Ev


namespace Go.Proofs
open Go.Ev Go.RowKit Go.Maps Go.ChangeShapes Go.Sort Go.Lib

structure GV (W0 wl:World) (v:Value) (l ks:List ByteArray):Prop where
 grp:wl.ownsGroups Tryz.prog 9 (W0.heap.size+1) 3 .i64 W0.heap.size l.length (GD l)
 ord:wl.ownsRow (W0.heap.size+1) 9 1 v ks.length (ks.map Value.string)
 sh:wl.Shuns W0.heap.size (fun g=>v.ownBlock=some g)
 bel:Below W0.heap.size W0 wl
 lt:W0.heap.size < wl.heap.size

theorem GV.ordNe {W0 wl:World} {v:Value} {l ks:List ByteArray} (h:GV W0 wl v l ks) {j:Nat} (hj:j≤W0.heap.size):v.ownBlock=none∨v.ownBlock≠some j:=by
 cases hob:v.ownBlock with
 | none=>exact Or.inl rfl
 | some g=>exact Or.inr (fun e=>by cases e;have:=(h.ord.lt _ hob).1;omega)

theorem ext_grown {w w':World} (h:Ext w w') (r:Option Nat):w.grownBy w' r:=⟨h.kept.1.1,h.kept.1.2.1,h.kept.1.2.2,h.size,fun k hk _=>h.same k hk⟩
theorem GV.called {W0 wl w2:World} {v:Value} {l ks:List ByteArray} (h:GV W0 wl v l ks) (hE:Ext wl w2):GV W0 w2 v l ks:=by
 have hg:=ext_grown hE none
 exact ⟨h.grp.kept hg (by simp) (h.grp.rowsAbove (fun j hj=>by cases hj)),h.ord.kept hg (by cases v.ownBlock <;> simp),h.sh.kept hg h.lt (by simp),h.bel.trans ⟨hE.kept.1.1,hE.kept.1.2.1,hE.kept.1.2.2,hE.size,fun k hk=>hE.same k (Nat.lt_trans hk h.lt)⟩,Nat.lt_of_lt_of_le h.lt hE.size⟩

theorem GV.ordered {W0 wl w3:World} {v v':Value} {l ks:List ByteArray} {x:ByteArray} (h:GV W0 wl v l ks) (hown':w3.ownsRow (W0.heap.size+1) 9 1 v' (ks.length+1) (ks.map Value.string ++ [.string x]))
 (hall:wl.grownBy w3 v.ownBlock) (hloc:v'.ownBlock=v.ownBlock∨∃ g,v'.ownBlock=some g∧wl.heap.size≤g):GV W0 w3 v' l (ks ++ [x]):=by
 have hBne:some W0.heap.size≠v.ownBlock:=row_ne_low h.ord (Nat.lt_succ_self _)
 have hsh':wl.Shuns W0.heap.size (fun g=>v'.ownBlock=some g):=h.sh.reno h.grp (fun g hg=>by
  rcases hloc with e | ⟨g',e,hge⟩
  ·exact Or.inl (e ▸ hg)
  ·rw [e] at hg;cases hg;exact Or.inr hge)
 exact ⟨h.grp.kept hall hBne (h.sh.rowsOff (fun j hj=>hj)),by simpa using hown',hsh'.kept hall h.lt hBne,
  h.bel.grown hall (Nat.le_of_lt h.lt) (fun j hj=>by have:=(h.ord.lt j hj).1;omega),Nat.lt_of_lt_of_le h.lt hall.size⟩

theorem GV.ahead {W0 wl w1:World} {v u v':Value} {l ks:List ByteArray} {zs':List Int} (h:GV W0 wl v l ks) (hsu:∀ No:Nat→Prop,wl.Shuns W0.heap.size No→∀ g,u.ownBlock=some g→¬ No g)
 (hown':w1.ownsInts (W0.heap.size+1) 3 .i64 v' zs') (hloc:v'.ownBlock=u.ownBlock∨∃ g,v'.ownBlock=some g∧wl.heap.size≤g):∀ g,v'.ownBlock=some g→¬ v.ownBlock=some g:=fun g hg hno=>by
 rcases hloc with e | ⟨g',e,hge⟩
 ·exact hsu _ h.sh g (e ▸ hg) hno
 ·rw [e] at hg;cases hg
  have:=(h.ord.lt _ hno).2;omega

theorem GV.stored {W0 wl w1 w2:World} {v u:Value} {l ks:List ByteArray} {x:ByteArray} (h:GV W0 wl v l ks) (hsu:∀ No:Nat→Prop,wl.Shuns W0.heap.size No→∀ g,u.ownBlock=some g→¬ No g)
 {zs:List Int} (hu0:wl.ownsInts (W0.heap.size+1) 3 .i64 u zs) (hall:wl.grownBy w1 u.ownBlock) (hown2:w2.ownsGroups Tryz.prog 9 (W0.heap.size+1) 3 .i64 W0.heap.size (l.length+1) (GD (l ++ [x]))) (hgrow2:w1.grownBy w2 (some W0.heap.size))
 (hsh2:w2.Shuns W0.heap.size (fun g=>v.ownBlock=some g)):GV W0 w2 v (l ++ [x]) ks:=by
 have hvu:v.ownBlock=none∨v.ownBlock≠u.ownBlock:=by
  cases hob:v.ownBlock with
  | none=>exact Or.inl rfl
  | some g=>exact Or.inr (fun e=>hsu _ h.sh g e.symm hob)
 exact ⟨by simpa using hown2,(h.ord.kept hall hvu).kept hgrow2 (h.ordNe (Nat.le_refl _)),hsh2,h.bel.groups hu0 hall hgrow2 (Nat.le_of_lt h.lt) (Nat.le_succ _) (Nat.le_refl _),Nat.lt_of_lt_of_le h.lt (Nat.le_trans hall.size hgrow2.size)⟩

theorem GV.start (W0:World):GV W0 ((W0.alloc (.map #[] 0)).alloc (.cells #[] 9)) (.slice (some ⟨W0.heap.size+1,0,none⟩) 0 0) [] []:=by
 have hs:(W0.alloc (.map #[] 0)).heap.size=W0.heap.size+1:=by simp
 have hg:=World.grownBy_alloc (W0.alloc (.map #[] 0)) (.cells #[] 9) none
 refine ⟨(World.ownsGroups_made W0 Tryz.prog 9 3 .i64).kept hg (by simp) (World.ownsGroups.rowsAbove (World.ownsGroups_made (H:=Unit) W0 Tryz.prog 9 3 .i64) (fun j hj=>by cases hj)),⟨rfl,.inr ⟨_,_,#[],rfl,Nat.le_refl _,?_,Nat.le_refl _,Nat.zero_le _,rfl,rfl⟩⟩,(World.Shuns_made W0 _).kept hg (by rw [hs];omega) (by simp),((Below.refl _ _).alloc (Nat.le_refl _) _).alloc (by rw [hs];omega) _,by simp;omega⟩
 have:=(MapKept.heap_alloc (W0.alloc (.map #[] 0)) (.cells #[] 9)).1
 rwa [hs] at this

theorem GD_zs {w:World} {base:Nat} {e:TypeId} {u:Value} {zs:List Int} {l:List ByteArray} {x:ByteArray} (hoi:w.ownsInts base e .i64 u zs) (hat:(GD l).atKey (keyL x) .nil=rowDatum .i64 u zs):zs=posN x l 0:=by
 rw [GD_at] at hat
 rcases hoi.datum (H:=Unit) with ⟨h1,rfl⟩ | h1
 ·rw [h1] at hat
  split at hat
  ·cases hat
  ·rename_i hx
   exact (posN_nil.2 hx).symm
 ·rw [h1] at hat
  split at hat
  ·injection hat with h2 _
   exact ((List.map_inj_right (f:=fun n=>(DataW.lit (.int .i64 n):DataW Unit)) (l:=posN x l 0) (l':=zs) (fun a b hab=>by injection hab with h3;injection h3)).1 h2).symm
  ·cases hat
theorem GD_next {w:World} {base:Nat} {e:TypeId} {v':Value} {zs:List Int} {l:List ByteArray} {x:ByteArray} {k:Nat} (hoi':w.ownsInts base e .i64 v' (zs ++ [(k:Int)])) (hz:zs=posN x l 0) (hk:l.length=k):(GD l).put (keyL x) (rowDatum .i64 v' (zs ++ [(k:Int)]))=GD (l ++ [x]):=by
 rw [GD_snoc,hoi'.datum_pos (by simp),hz,zhs,if_pos rfl,hk,Int.zero_add]

theorem zmc {P:Program} (w:World) {ops:Array Oper} {rest:List Oper} {o:Oper} {a:Act} {Q:Exit→Act→World→Prop} (hg:o.guard=none) (m x:Operand) (t:TypeId) (hop:o.op=Op.lookup t m x false)
 (k E e:TypeId) (q:IntKind) (K:Keyed P k) (ht:P.underlying t=some (.map k E)) (hz:(zeroValue E).run P w=.ok (.slice none 0 0) w) (base b n:Nat) (D:DataW Unit)
 (hm:a.eval m=.map (some b)) (hown:w.ownsGroups P k base e q b n D) (hn:n < maxLen) (key:Value) (kl:Lit) (hx:a.eval x=key) (hkey:keyOf P k key=some kl) (hat:D.atKey kl .nil=.nil)
 (hK:wpList P ops Q rest (a.put o.dst (.slice none 0 0)) w):wpList P ops Q (o :: rest) a w:=by
 refine wpList_plain hg fun K' hK'=>?_
 obtain ⟨v,zs,hrun,hat',hoi,_⟩:=hown.at K ht hz hn hkey
 have hv:v=.slice none 0 0:=by
  rw [hat] at hat'
  rcases hoi.1.2 with ⟨h,_⟩|⟨g,cap,cur,rfl,_⟩
  ·exact h
  ·cases hat'
 subst hv
 unfold Oper.wp
 simp [execOp,hop,hm,hx,hrun,Result.andThen]
 exact hK' _ _ hK
theorem zmb {P:Program} (w:World) {ops:Array Oper} {rest:List Oper} {o:Oper} {a:Act} {Q:Exit→Act→World→Prop} (hg:o.guard=none) (m x:Operand) (t:TypeId) (hop:o.op=Op.lookup t m x false)
 (k E e:TypeId) (q:IntKind) (K:Keyed P k) (ht:P.underlying t=some (.map k E)) (hz:(zeroValue E).run P w=.ok (.slice none 0 0) w) (base b n:Nat) (D:DataW Unit)
 (hm:a.eval m=.map (some b)) (hown:w.ownsGroups P k base e q b n D) (hn:n < maxLen) (key:Value) (kl:Lit) (hx:a.eval x=key) (hkey:keyOf P k key=some kl) {ys:List (DataW Unit)} (hat:D.atKey kl .nil=.slice ys [])
 (hK:∀ (g m c:Nat),wpList P ops Q rest (a.put o.dst (.slice (some ⟨g,0,none⟩) m c)) w):wpList P ops Q (o :: rest) a w:=by
 refine wpList_plain hg fun K' hK'=>?_
 obtain ⟨v,zs,hrun,hat',hoi,_⟩:=hown.at K ht hz hn hkey
 have hv:∃ g c,v=.slice (some ⟨g,0,none⟩) zs.length c:=by
  rw [hat] at hat'
  rcases hoi.1.2 with ⟨rfl,_⟩|⟨g,cap,cur,rfl,_⟩
  ·cases hat'
  ·exact ⟨g,cap,rfl⟩
 obtain ⟨g,c,rfl⟩:=hv
 unfold Oper.wp
 simp [execOp,hop,hm,hx,hrun,Result.andThen]
 exact hK' _ _ (hK g _ c)

theorem holds_names {w:World} {g:Nat} {cur:Array Value} {e:TypeId} {ss:List ByteArray} (hb:w.heap[g]?=some (.cells cur e (0,0))) (ht:cur.toList.take ss.length=ss.map Value.string):Holds Value.string w g 0 ss.toArray:=by
 intro j hj
 have hj':j < ss.length:=by simpa using hj
 refine ⟨?_,by simp [World.frozen?,hb]⟩
 have h1:(cur.toList.take ss.length)[j]?=(ss.map Value.string)[j]?:=by rw [ht]
 rw [List.getElem?_take_of_lt hj'] at h1
 simp only [World.cell?,hb,Nat.zero_add]
 simp only [Option.isSome_none,Bool.false_eq_true,if_false]
 rw [← Array.getElem?_toList,h1]
 simp [hj']
theorem GV.sorted {W0 wr:World} {g cap q m:Nat} {cur:Array Value} {l ks ts:List ByteArray} (h:GV W0 wr (.slice (some ⟨g,0,none⟩) m cap) l ks) (hm:m=ks.length) (hb:wr.heap[g]?=some (.cells cur 9 (0,0))) (h1:m≤cap) (h2:cap≤maxLen) (h3:cur.size=cap * 1) (hbase:W0.heap.size+1≤g) (hl:ts.length=ks.length) :
 GV W0 ((putRow Value.string wr g 0 ts.toArray).drewN q) (.slice (some ⟨g,0,none⟩) m cap) l ts:=by
 have hgr:wr.grownBy ((putRow Value.string wr g 0 ts.toArray).drewN q) (some g):=by
  refine ⟨rfl,rfl,rfl,by show _≤(putRow Value.string wr g 0 ts.toArray).heap.size;simp,fun k hk hne=>?_⟩
  have:g≠k:=fun e=>hne (by rw [e])
  show (putRow Value.string wr g 0 ts.toArray).heap[k]?=_
  simp [putRow,mapBlock,Array.getElem?_modify,this]
 have hB:some W0.heap.size≠some g:=by simp;omega
 refine ⟨h.grp.kept hgr hB (h.sh.rowsOff (fun j hj=>hj ▸ rfl)),⟨by simp,.inr ⟨g,cap,putCells Value.string 0 ts.toArray cur,by rw [hm,hl],hbase,?_,by omega,h2,by simp [putCells,h3],?_⟩⟩,h.sh.kept hgr h.lt hB,h.bel.grown hgr (Nat.le_of_lt h.lt) (fun j hj=>by cases hj;omega),Nat.lt_of_lt_of_le h.lt hgr.size⟩
 ·show (putRow Value.string wr g 0 ts.toArray).heap[g]?=_
  simp [putRow,mapBlock,Array.getElem?_modify,hb,onCells]
 ·rw [Nat.mul_one]
  apply List.ext_getElem?
  intro j
  by_cases hj:j < ts.length
  ·rw [List.getElem?_take_of_lt hj,Array.getElem?_toList]
   simp [putCells,hj,show j < cur.size by omega]
  ·rw [List.getElem?_take_eq_none (by omega),List.getElem?_eq_none (by simp;omega)]

theorem seq3 {P:Program} {c A B C R:Code} {Q:Exit→Act→World→Prop} {a:Act} {w:World} (h:c=.seq A (.seq B (.seq C R))) (H:∀ X:Code,(∀ a w,R.wp P Q a w→X.wp P Q a w)→(Code.seq A (.seq B (.seq C X))).wp P Q a w):c.wp P Q a w :=
 h ▸ H R (fun _ _ h=>h)

theorem Tryz.info3:(Tryz.prog.info? 3).map (fun i=>(i.zero,i.size,i.bytes))=some (some (.int .i64 0),1,8):=by kernel_rfl
theorem Tryz.info9:(Tryz.prog.info? 9).map (fun i=>(i.zero,i.size,i.bytes))=some (some (.string ⟨#[]⟩),1,16):=by kernel_rfl
theorem zero23 (w:World):(zeroValue 24).run Tryz.prog w=.ok (.slice none 0 0) w:=by kernel_rfl
theorem eqNil0 (w:World):(binOp .eql 24 (.slice none 0 0) (.slice none 0 0)).run Tryz.prog w=.ok (.bool true) w:=by kernel_rfl
theorem eqNil1 (g m c:Nat) (w:World):(binOp .eql 24 (.slice (some ⟨g,0,none⟩) m c) (.slice none 0 0)).run Tryz.prog w=.ok (.bool false) w:=by kernel_rfl
theorem law9:Keyed Tryz.prog 9:=string_keyed Tryz.underlying9

set_option maxRecDepth 1000000 in
set_option maxHeartbeats 8000000 in
theorem walk12 {W0:World} {f:Nat→Value} {β n scap:Nat} {names:List ByteArray} {c1:Value} {sa:Option Addr} (hf1:f 1=.pointer (some ⟨β,0,none⟩)) (hβ:β < W0.heap.size) (h0:W0.cell? ⟨β,0,none⟩=some (.slice sa n scap)) (h1:W0.cell? ⟨β,1,none⟩=some c1)
 (hn:names.length=n) (hn1:1≤n) (h12:n≤12) (hsz:∀ s∈names,s.size≤1000000)
 (hnode:∀ i,i < n→∀ wr,Ext W0 wr→Calls Tryz.prog 68 #[.agg #[.slice sa n scap,c1],.int .i64 i] wr fun e w'=>e=.returned (.string (names.getD i ByteArray.empty))∧Ext wr w') {Q:Exit→Act→World→Prop}
 (hR:∀ tm v wl,tm.size=126→tm.getD 1 undef=f 1→tm.getD 2 undef=f 2→tm.getD 3 undef=.map (some W0.heap.size)→tm.getD 4 undef=v→GV W0 wl v names (sortN (dstN names)) →
  (dropS 3 (dropS 2 (Tryz.f36.body.getD .skip))).wp Tryz.prog Q { tmps:=tm,defers:=[] } wl) :
 (dropS 2 (Tryz.f36.body.getD .skip)).wp Tryz.prog Q { tmps:=#[f 0,f 1,f 2,f 3,f 4,f 5,f 6,f 7,f 8,f 9,f 10,f 11,f 12,f 13,f 14,f 15,f 16,f 17,f 18,f 19,f 20,f 21,f 22,f 23,f 24,f 25,f 26,f 27,f 28,f 29,f 30,f 31,f 32,f 33,f 34,f 35,f 36,f 37,f 38,f 39,f 40,f 41,f 42,f 43,f 44,f 45,f 46,f 47,f 48,f 49,f 50,f 51,f 52,f 53,f 54,f 55,f 56,f 57,f 58,f 59,f 60,f 61,f 62,f 63,f 64,f 65,f 66,f 67,f 68,f 69,f 70,f 71,f 72,f 73,f 74,f 75,f 76,f 77,f 78,f 79,f 80,f 81,f 82,f 83,f 84,f 85,f 86,f 87,f 88,f 89,f 90,f 91,f 92,f 93,f 94,f 95,f 96,f 97,f 98,f 99,f 100,f 101,f 102,f 103,f 104,f 105,f 106,f 107,f 108,f 109,f 110,f 111,f 112,f 113,f 114,f 115,f 116,f 117,f 118,f 119,f 120,f 121,f 122,f 123,f 124,f 125],defers:=[] } W0:=by
 refine seq3 rfl fun X hX'=>?_
 have hX:Hid _:=fun tm v wl h1 h2 h3 h4 h5 h6=>hX' _ _ (hR tm v wl h1 h2 h3 h4 h5 h6)
 clear hX' hR
 rw [hf1]
 have hmm:=@run_makeMap Tryz.prog
 have nil0:=eqNil0
 have nil1:=eqNil1
 obtain ⟨i3,hi3,hz3,hs3,hb3⟩:=info_parts Tryz.info3
 obtain ⟨i9,hi9,hz9,hs9,hb9⟩:=info_parts Tryz.info9
 have HN:Hid _:=hnode
 have HS:Hid (∀ s∈names,s.size≤1000000):=hsz
 have H0:Hid _:=h0
 have H1:Hid _:=h1
 have HL:Hid (names.length=n):=hn
 have HF:Hid _:=hf1
 clear hnode hsz hf1 hn
 go_wp2
 go_loopw [4,34] (fun v i wl=>∃ k:Nat,k≤n∧i=.int .i64 k∧Hid (GV W0 wl v (names.take k) (dstN (names.take k)))) (fun _ i _=>n - (intOf i).toNat)
 case atStart=>exact ⟨0,Nat.zero_le _,rfl,GV.start W0⟩
 case round =>
  obtain ⟨k,hk,rfl,HG⟩:=hrel
  by_cases hlt:k < n
  ·have c0:wr.cell? ⟨β,0,none⟩=some (.slice sa n scap):=(HG.out.bel.cell hβ).trans H0.out
   have c1:wr.cell? ⟨β,1,none⟩=some _:=(HG.out.bel.cell hβ).trans H1.out
   have hc:=HN.out k hlt wr ⟨HG.out.bel.size,⟨⟨HG.out.bel.os,HG.out.bel.tape,HG.out.bel.output⟩,fun a ha=>⟨Nat.lt_of_lt_of_le ha HG.out.bel.size,World.frozen?_of_block (HG.out.bel.block a.block ha)⟩⟩,HG.out.bel.block⟩
   have hx:names[k]?=some (names.getD k ByteArray.empty):=by rw [List.getD_eq_getElem?_getD,List.getElem?_eq_getElem (by have:=HL.out;omega)];rfl
   have hxs:(names.getD k ByteArray.empty).size≤1000000:=HS.out _ (List.mem_of_getElem? hx)
   have htk:names.take (k+1)=names.take k ++ [names.getD k ByteArray.empty]:=by rw [List.take_add_one,hx];rfl
   have htl:(names.take k).length=k:=by have:=HL.out;simp;omega
   generalize names.getD k ByteArray.empty=x at hc hx hxs htk
   have hkey:keyOf Tryz.prog 9 (.string x)=some (keyL x):=WideMaps.keyOf_string_mk Tryz.underlying9 (by unfold maxLen;omega)
   have HTK:Hid _:=htk
   have HX:Hid _:=hx
   clear h0 h1 hx htk
   go_wp2_with (go_at_call 68;refine hc.mono ?_)
   rintro e w2 ⟨rfl,hE⟩
   have G2:Hid _:=HG.out.called hE
   have tok1:True:=trivial
   have tok2:True:=trivial
   clear HG hc hE c0 c1
   by_cases hin:x∈names.take k
   ·have hat0:(GD (names.take k)).atKey (keyL x) .nil=.slice (lits .i64 (posN x (names.take k) 0)) []:=by rw [GD_at,if_pos hin]
    go_wp2_with (first
     | (at_lookup;have _t:=tok1;refine zmb _ rfl _ _ 89 rfl 9 24 3 .i64 law9 Tryz.underlying89 (zero23 _) (W0.heap.size+1) W0.heap.size _ _ rfl G2.out.grp (by rw [htl];unfold maxLen;omega) _ _ rfl hkey hat0 ?_;intro g0 m0 c0;clear tok1)
     | (at_lookup;have _t:=tok2;refine wpList_lookup_groups_shuns _ rfl _ _ 89 rfl 9 24 3 .i64 law9 Tryz.underlying89 (zero23 _) (W0.heap.size+1) W0.heap.size _ _ rfl G2.out.grp (by rw [htl];unfold maxLen;omega) _ _ rfl hkey ?_;intro u zs hat hoi hzl hback hsu;clear tok2)
     | (at_builtin;refine wpList_append_own_at _ rfl _ _ 24 rfl (W0.heap.size+1) 3 i3 (.int .i64 0) 1 8 Tryz.underlying24 hi3 hz3 hs3 hb3 rfl (by decide) _ _ _ rfl (hoi.1.alloc _) ⟨w2.heap.size,0,none⟩ 1 1 [.int .i64 k] rfl rfl (cell_one_new _ _ _) (ints_oneCell .i64 [(k:Int)]) (by unfold maxLen;omega) (by omega) (by have:=G2.out.lt;simp;omega) ?_;intro v' w5 hown' hgrow hnil hloc
        have hall:=(World.grownBy_alloc w2 (.cells #[.int .i64 k] 3) u.ownBlock).trans hgrow
        have hoi':=hoi.appended hown' (WalkArith.wf_i64 (by omega))
        have hloc':v'.ownBlock=u.ownBlock∨∃ g,v'.ownBlock=some g∧w2.heap.size≤g:=hloc.imp id (fun h=>⟨_,h,by simp⟩)
        have pre:=G2.out.ahead hsu hoi' hloc')
     | (at_mapUpdate;refine wpList_mapUpdate_back_shuns _ rfl _ _ _ 89 rfl law9 Tryz.underlying89 hkey G2.out.grp (by rw [htl];unfold maxLen;omega) hoi G2.out.sh pre hback rfl rfl rfl hall hoi' (by rw [List.length_append];exact Nat.succ_le_succ hzl) hloc' ?_;intro w6 hown6 hgrow6 hsh6)
     | go_in)
    have I6:Hid _:=G2.out.stored hsu hoi hall (by rw [← GD_next hoi' (GD_zs hoi hat) htl];exact hown6) hgrow6 hsh6
    have hd:dstN (names.take (k+1))=dstN (names.take k):=by rw [HTK.out,zlw,if_pos ((zif _ _).2 hin)]
    refine ⟨⟨k+1,by omega,by simp,?_⟩,by simp [intOf];omega⟩
    rw [hd,HTK.out]
    exact I6
   ·have hat0:(GD (names.take k)).atKey (keyL x) .nil=.nil:=by rw [GD_at,if_neg hin]
    have tokA:True:=trivial
    have hdl:(dstN (names.take k)).length≤k:=by have:=zim (names.take k);omega
    go_wp2_with (first
     | (at_lookup;have _t:=tok1;refine zmc _ rfl _ _ 89 rfl 9 24 3 .i64 law9 Tryz.underlying89 (zero23 _) (W0.heap.size+1) W0.heap.size _ _ rfl G2.out.grp (by rw [htl];unfold maxLen;omega) _ _ rfl hkey hat0 ?_;clear tok1)
     | (at_builtin;have _t:=tokA;refine wpList_append_own_at _ rfl _ _ 86 rfl (W0.heap.size+1) 9 i9 (.string ⟨#[]⟩) 1 16 Tryz.underlying86 hi9 hz9 hs9 hb9 rfl (by decide) _ _ _ rfl (G2.out.ord.alloc _) ⟨w2.heap.size,0,none⟩ 1 1 [.string x] rfl rfl (cell_one_new _ _ _) (by simp [Value.oneCell']) (by unfold maxLen;omega) (by omega) (by have:=G2.out.lt;simp;omega) ?_;intro vo w3 hownO hgrowO hnilO hlocO
        have hallO:=(World.grownBy_alloc w2 (.cells #[.string x] 9) u4.ownBlock).trans hgrowO
        have G3:Hid _:=G2.out.ordered hownO hallO (hlocO.imp id (fun h=>⟨_,h,by simp⟩))
        clear tokA hownO hgrowO hlocO hallO)
     | (at_lookup;have _t:=tok2;refine wpList_lookup_groups_shuns _ rfl _ _ 89 rfl 9 24 3 .i64 law9 Tryz.underlying89 (zero23 _) (W0.heap.size+1) W0.heap.size _ _ rfl G3.out.grp (by rw [htl];unfold maxLen;omega) _ _ rfl hkey ?_;intro u zs hat hoi hzl hback hsu;clear tok2)
     | (at_builtin;refine wpList_append_own_at _ rfl _ _ 24 rfl (W0.heap.size+1) 3 i3 (.int .i64 0) 1 8 Tryz.underlying24 hi3 hz3 hs3 hb3 rfl (by decide) _ _ _ rfl (hoi.1.alloc _) ⟨w3.heap.size,0,none⟩ 1 1 [.int .i64 k] rfl rfl (cell_one_new _ _ _) (ints_oneCell .i64 [(k:Int)]) (by unfold maxLen;omega) (by omega) (by have:=G3.out.lt;simp;omega) ?_;intro v' w5 hown' hgrow hnil hloc
        have hall:=(World.grownBy_alloc w3 (.cells #[.int .i64 k] 3) u.ownBlock).trans hgrow
        have hoi':=hoi.appended hown' (WalkArith.wf_i64 (by omega))
        have hloc':v'.ownBlock=u.ownBlock∨∃ g,v'.ownBlock=some g∧w3.heap.size≤g:=hloc.imp id (fun h=>⟨_,h,by simp⟩)
        have pre:=G3.out.ahead hsu hoi' hloc')
     | (at_mapUpdate;refine wpList_mapUpdate_back_shuns _ rfl _ _ _ 89 rfl law9 Tryz.underlying89 hkey G3.out.grp (by rw [htl];unfold maxLen;omega) hoi G3.out.sh pre hback rfl rfl rfl hall hoi' (by rw [List.length_append];exact Nat.succ_le_succ hzl) hloc' ?_;intro w6 hown6 hgrow6 hsh6)
     | go_in)
    have I6:Hid _:=G3.out.stored hsu hoi hall (by rw [← GD_next hoi' (GD_zs hoi hat) htl];exact hown6) hgrow6 hsh6
    have hd:dstN (names.take (k+1))=dstN (names.take k) ++ [x]:=by rw [HTK.out,zlw,if_neg (fun h=>hin ((zif _ _).1 h))]
    refine ⟨⟨k+1,by omega,by simp,?_⟩,by simp [intOf];omega⟩
    rw [hd,HTK.out]
    exact I6
  ·obtain rfl:k=n:=by omega
   have hall:names.take k=names:=List.take_of_length_le (by have:=HL.out;omega)
   rw [hall] at HG
   have hdl:(dstN names).length≤k:=by have:=zim names;have:=HL.out;omega
   have hne:(dstN names).length≠0:=by
    intro h
    have h2:names=[]:=by
     cases hnm:names with
     | nil=>rfl
     | cons y ys =>
      have:=(zif y names).2 (by rw [hnm];exact List.mem_cons_self ..)
      rw [List.length_eq_zero_iff.1 h] at this
      cases this
    have:=HL.out
    rw [h2] at this
    simp at this
    omega
   rcases HG.out.ord.2 with ⟨_,h⟩|⟨g,cap,cur,rfl,hbase,hb,q1,q2,q3,q4⟩
   ·exact absurd h hne
   have hH:Holds Value.string wr g 0 (dstN names).toArray:=holds_names hb (by simpa using q4)
   have hs:=sort39 g cap (dstN names).toArray wr hH (by simp;omega)
   simp only [List.size_toArray] at hs
   have HH:Hid _:=hH
   have HB:Hid _:=hb
   clear hH hb h0 h1
   go_wp2_with (go_at_call 69;refine hs.mono ?_;rintro e w' ⟨rfl,q,rfl⟩)
   have hlen:(Sort.insertionSort (ltOf cmpS) (dstN names).toArray 0 (dstN names).length).toList.length=(dstN names).length:=by
    rw [lt_cmpS]
    exact zgy _
   have G9:=HG.out.sorted (q:=q) rfl HB.out q1 q2 q3 hbase hlen
   rw [lt_cmpS] at G9
   rw [lt_cmpS]
   exact hX.out _ _ _ rfl HF.out.symm rfl rfl rfl G9
end Go.Proofs


namespace Go.Proofs
open Go.Ev Go.RowKit Go.Maps Go.ChangeShapes Go.Sort Go.Lib

def namesF (F:List AV→Option AV) (az:List C):Nat→Option (List ByteArray)
 | 0=>some []
 | k+1=>(namesF F az k).bind fun l=>match F [.ag az,.one (.s (.int .i64 k))] with
  | some (.one (.s (.string x)))=>some (l ++ [x])
  | _=>none
theorem namesF_ok {F:List AV→Option AV} {az:List C}:∀ {k:Nat} {l:List ByteArray},namesF F az k=some l→l.length=k∧∀ i,i < k→F [.ag az,.one (.s (.int .i64 i))]=some (.one (.s (.string (l.getD i ByteArray.empty))))
 | 0,l,h=>by cases h;exact ⟨rfl,fun i hi=>absurd hi (Nat.not_lt_zero i)⟩
 | k+1,l,h=>by
  rw [namesF,Option.bind_eq_some_iff] at h
  obtain ⟨l0,h0,h⟩:=h
  obtain ⟨h1,h2⟩:=namesF_ok h0
  split at h
  ·rename_i x hx
   cases h
   refine ⟨by simp [h1],fun i hi=>?_⟩
   rcases Nat.lt_or_eq_of_le (Nat.le_of_lt_succ hi) with hlt | rfl
   ·rw [h2 i hlt,List.getD_eq_getElem?_getD,List.getD_eq_getElem?_getD,List.getElem?_append_left (by omega)]
   ·rw [hx,List.getD_eq_getElem?_getD,List.getElem?_append_right (by omega)]
    simp [h1]
  ·cases h

def pre12 (F:List AV→Option AV) (σ:St):Option St:=match σ.env 1 with
 | .one (.ptr k off)=>if k=(1,1)∧off=0 then (match σ.mem (1,1) with
  | some [.l .shr n cs,.l .shr n1 cs1]=>if 1≤n∧n≤12 then (namesF F [.l .shr n cs,.l .shr n1 cs1] n).bind fun names=>if names.all (fun s=>decide (s.size≤1000000)) then
   some { env:=envL [(1,σ.env 1),(2,σ.env 2),(3,.one (.mp (encM (grpN names)))),(4,.one (.l .shr (sortN (dstN names)).length (encL (sortN (dstN names)))))],mem:=σ.mem } else none
   else none
  | _=>none) else none
 | _=>none

theorem lit126 (tm:Array Value) (h:tm.size=126):tm=((List.range 126).map fun i=>tm.getD i undef).toArray:=by
 apply Array.ext_getElem?
 intro i
 simp only [List.getElem?_toArray,List.getElem?_map]
 by_cases hi:i < 126
 ·rw [List.getElem?_range hi]
  simp [Array.getD_eq_getD_getElem?,h,hi]
 ·rw [Array.getElem?_eq_none (by omega),List.getElem?_eq_none (by simp;omega)]
  rfl

theorem preOK12 {F:List AV→Option AV} (h38:PC Tryz.prog 68 F):PreOK Tryz.prog 1 126 (dropS 2 (Tryz.f36.body.getD .skip)) (dropS 3 (dropS 2 (Tryz.f36.body.getD .skip))) (pre12 F):=by
 intro σ σ' hF G w a hS hd Q hrest
 unfold pre12 at hF
 split at hF
 rotate_left
 ·cases hF
 rename_i k off he
 split at hF
 rotate_left
 ·cases hF
 rename_i hk
 obtain ⟨rfl,rfl⟩:=hk
 split at hF
 rotate_left
 ·cases hF
 rename_i n cs n1 cs1 hm
 split at hF
 rotate_left
 ·cases hF
 rename_i hn
 rw [Option.bind_eq_some_iff] at hF
 obtain ⟨names,hnm,hF⟩:=hF
 split at hF
 rotate_left
 ·cases hF
 rename_i hsz
 cases hF
 obtain ⟨hlen,hcall⟩:=namesF_ok hnm
 obtain ⟨arr,el,hh,hown,_,hcs⟩:=hS.mem (1,1) _ hm (by simp)
 obtain ⟨x0,hx0,r0⟩:=hcs.2 0 _ rfl
 obtain ⟨x1,hx1,r1⟩:=hcs.2 1 _ rfl
 have hE1:=hS.env 1
 rw [he] at hE1
 obtain ⟨hl1,hv1⟩:=hE1
 have r0':RD w G (.cell (1,1)) .shr [0+0] (.sl n cs) x0:=r0
 rw [RD] at r0'
 rcases r0' with ⟨_,h0,_⟩|⟨_,_,b0,off0,cap0,rfl,_,_,_⟩
 ·omega
 have hcell:∀ i x,(arr.toList.take 2)[i]?=some x→w.cell? ⟨G.β (1,1),i,none⟩=some x:=fun i x hi=>by
  simp only [World.cell?,hh]
  simp only [Option.isSome_none,Bool.false_eq_true,if_false]
  rw [List.getElem?_take] at hi
  split at hi
  ·rw [← Array.getElem?_toList];exact hi
  ·cases hi
 have hsh:[AV.ag [.l .shr n cs,.l .shr n1 cs1],.one (.s (.int .i64 (0:Int)))].all AV.shr?=true:=rfl
 obtain ⟨tm,df⟩:=a
 have hd:df=[]:=hd
 subst hd
 have hS:Sim 1 126 G σ tm w:=hS
 have htm:=lit126 tm hS.sz
 have hv1:tm.getD 1 undef=.pointer (some ⟨G.β (1,1),0,none⟩):=hv1
 have key:=walk12 (W0:=w) (f:=fun i=>tm.getD i undef) (β:=G.β (1,1)) (n:=n) (scap:=cap0) (names:=names) (c1:=x1) (sa:=some ⟨b0,off0,none⟩) hv1 (hS.wf _ _ hown) (hcell 0 _ hx0) (hcell 1 _ hx1) hlen hn.1 hn.2
  (fun s hs=>by rw [List.all_eq_true] at hsz;simpa using hsz s hs)
  (fun i hi wr hE=>h38.ext (args:=[.ag [.l .shr n cs,.l .shr n1 cs1],.one (.s (.int .i64 i))]) (hcall i hi) (G:=G) rfl rfl (fun j x hj=>by
   match j with
   | 0=>cases hj;exact ⟨_,rfl,_,rfl,rfl,fun j c hj=>by
    match j with
    | 0=>cases hj;exact ⟨_,rfl,znc (G:=G) rfl (fun b hb=>⟨hb,Nat.le_refl _⟩) r0⟩
    | 1=>cases hj;exact ⟨_,rfl,znc (G:=G) rfl (fun b hb=>⟨hb,Nat.le_refl _⟩) r1⟩
    | j+2=>cases hj⟩
   | 1=>cases hj;exact ⟨_,rfl,rfl,rfl⟩
   | j+2=>cases hj) hE) (Q:=Q) fun tm' v wl hz' h1' h2' h3' h4' hG=>?_
 ·have:({ tmps:=tm,defers:=[] }:Act)={ tmps:=((List.range 126).map fun i=>tm.getD i undef).toArray,defers:=[] }:=by rw [← htm]
  rw [this]
  exact key
 ·have hE:=below_ext hG.bel
  obtain ⟨hS1,hF1⟩:=hS.ext hE (fillU wl)
  have hnone:∀ g,w.heap.size≤g→G.own g=none:=fun g hg=>by
   cases ho:G.own g with
   | none=>rfl
   | some t=>have:=hS.wf g t ho;omega
  have huse:∀ g,w.heap.size≤g→(G.more w.heap.size (fillU wl)).use g=fillU wl g:=fun g hg=>by
   show (if g < w.heap.size then _ else _)=_
   rw [if_neg (by omega)]
  refine hrest (G.more w.heap.size (fillU wl)) { tmps:=tm',defers:=[] } wl (hS1.slots hz' fun t=>?_) rfl hF1
  match t with
  | 1 =>
   show RA wl _ _ (σ.env 1) (tm'.getD 1 undef)
   rw [h1']
   exact hS1.env 1
  | 2 =>
   show RA wl _ _ (σ.env 2) (tm'.getD 2 undef)
   rw [h2']
   exact hS1.env 2
  | 3 =>
   show RC wl _ _ [] (.mp (encM (grpN names))) (tm'.getD 3 undef)
   rw [h3']
   obtain ⟨es,clock,hb,_⟩:=id hG.grp
   refine ⟨w.heap.size,es,clock,rfl,hnone _ (Nat.le_refl _),hb,fun s m ds hl=>?_⟩
   obtain ⟨r,hr,rfl,rfl⟩:=lookM_inv hl
   unfold grpN at hr
   rw [zot] at hr
   split at hr
   ·rename_i hs
    cases hr
    have hs':s∈names:=(zif _ _).1 hs
    obtain ⟨i,x,hf,ho⟩:=groups_find Tryz.underlying89 Tryz.underlying9 (zero23 _) hG.grp (by unfold maxLen;omega) (s:=s) (by rw [List.all_eq_true] at hsz;have:=hsz s hs';unfold maxLen;simp at this;omega) (by rw [GD_at,if_pos hs']) hb
    refine ⟨i,x,hf,?_⟩
    rw [encL_i]
    have:=zmh (G:=G.more w.heap.size (fillU wl)) (o:=.slot 1 3) (p:=[]) (w:=wl) (v:=x) (vs:=(posN s names 0).map fun z=>Value.int .i64 z) (base:=w.heap.size+1) (e:=3) (fun v hv=>by obtain ⟨z,_,rfl⟩:=List.mem_map.1 hv;rfl) (by simpa using ho.1) (fun g hg=>hnone g (by omega)) (fun g hg _=>huse g (by omega))
    simpa using this
   ·cases hr
  | 4 =>
   show RC wl _ _ [] (.l .shr _ _) (tm'.getD 4 undef)
   rw [h4']
   show RD _ _ _ .shr [] (.sl _ _) v
   rw [encL_s]
   have:=zmh (G:=G.more w.heap.size (fillU wl)) (o:=.slot 1 4) (p:=[]) (w:=wl) (v:=v) (vs:=(sortN (dstN names)).map Value.string) (base:=w.heap.size+1) (e:=9) (fun v hv=>by obtain ⟨z,_,rfl⟩:=List.mem_map.1 hv;rfl) (by simpa using hG.ord) (fun g hg=>hnone g (by omega)) (fun g hg _=>huse g (by omega))
   simpa using this
  | 0=>exact trivial
  | t+5=>exact trivial
end Go.Proofs


namespace Go.Proofs
open Go.Ev

theorem namesF_T {F:List AV→Option AV} {nm:TStructure→Int→Option ByteArray} (hF:∀ s i x,nm s i=some x→F [av .shr s,av .shr i]=some (.one (.s (.string x)))) {s:TStructure}:∀ {k:Nat} {l:List ByteArray},namesT (nm s) k=some l →
 namesF F [.l .shr s.nodes.length (encL s.nodes),.l .shr s.next.length (encL s.next)] k=some l
 | 0,l,h=>h
 | k+1,l,h=>by
  rw [namesT,Option.bind_eq_some_iff] at h
  obtain ⟨l0,h0,h⟩:=h
  rw [Option.bind_eq_some_iff] at h
  obtain ⟨x,hx,h⟩:=h
  cases h
  rw [namesF,namesF_T hF h0,Option.bind_some]
  have:F [.ag [.l .shr s.nodes.length (encL s.nodes),.l .shr s.next.length (encL s.next)],.one (.s (.int .i64 k))]=_:=hF s k x hx
  rw [this]
theorem pre12_eq {F:List AV→Option AV} {nm:TStructure→Int→Option ByteArray} (hF:∀ s i x,nm s i=some x→F [av .shr s,av .shr i]=some (.one (.s (.string x)))) {s:TStructure} {es:List (ByteArray × List Int)} {ls:List ByteArray} (hp:preT nm s=some (es,ls)) {σ:St}
 (h1:σ.env 1=.one (.ptr (1,1) 0)) (h2:σ.mem (1,1)=some [.l .shr s.nodes.length (encL s.nodes),.l .shr s.next.length (encL s.next)]) :
 pre12 F σ=some { env:=envL [(1,.one (.ptr (1,1) 0)),(2,σ.env 2),(3,.one (.mp (encM es))),(4,.one (.l .shr ls.length (encL ls)))],mem:=σ.mem }:=by
 unfold preT at hp
 rw [Option.bind_eq_some_iff] at hp
 obtain ⟨l,hl,hp⟩:=hp
 split at hp
 rotate_left
 ·cases hp
 rename_i hc
 cases hp
 rw [Bool.and_eq_true] at hc
 obtain ⟨hfew,hone⟩:=hc
 have hone:1≤l.length:=by simpa using hone
 obtain ⟨hlen,_⟩:=zoq hl
 have h12:=(few_ok hfew).1
 have hall:(l.all fun s=>decide (s.size≤1000000))=true:=by
  unfold few at hfew
  rw [Bool.and_eq_true] at hfew
  exact hfew.2
 unfold pre12
 rw [h1]
 simp only [and_self,if_true,h2]
 rw [if_pos (by omega),namesF_T hF hl,Option.bind_some,if_pos hall]
end Go.Proofs


namespace Go.Ev
def gtT (a b:ByteArray):Bool:=!(Op.bytesLess a.toList b.toList || a.toList == b.toList)
def ltT (a b:ByteArray):Bool:=Op.bytesLess a.toList b.toList
section
variable (P:Program) (t:TypeId) (x y:Operand) (a b:ByteArray)
@[simp] theorem tb_gtS:binAV P .gtr t x y (.one (.s (.string a))) (.one (.s (.string b)))=some (.bool (gtT a b)):=by
 simp [binAV,sclr,eqGuard,binOp,Op.stringOp,pureOf,pure,bind,Sem.bind,scal,gtT]
@[simp] theorem tb_ltS:binAV P .lss t x y (.one (.s (.string a))) (.one (.s (.string b)))=some (.bool (ltT a b)):=by
 simp [binAV,sclr,eqGuard,binOp,Op.stringOp,pureOf,pure,bind,Sem.bind,scal,ltT]
end
def minI (a b:Int):Int:=if b < a then b else a
def minAV (P:Program) (ts:Array TypeId) (ty:TypeId) (X Y:AV):Option Value :=
 if (sclr X).isSome && (sclr Y).isSome then
  match pureOf P (Builtin.min_ ts ty #[(sclr X).getD undef,(sclr Y).getD undef]) with
  | some v=>if scal v then some v else none
  | none=>none
 else none
theorem ex_min (ρ:Operand→Value) (dst:Option Nat) (pos:String) (after:Array Edge) (ty:TypeId) (guard:Option (Nat × Bool)) (ts:Array TypeId) (x y:Operand) :
 execOp ρ { dst,op:=.call { callee:=.builtin .min,args:=#[x,y],argTypes:=ts },type:=ty,pos,after,guard }=(do pure (.value (← Builtin.min_ ts ty #[ρ x,ρ y]))):=by
 simp [execOp,resolve,invoke,builtin]
theorem opE_min (g:Cfg) (d f:Nat) (σ:St) (dst:Option Nat) (pos:String) (after:Array Edge) (ty:TypeId) (guard:Option (Nat × Bool)) (ts:Array TypeId) (x y:Operand) :
 opE g d f { dst,op:=.call { callee:=.builtin .min,args:=#[x,y],argTypes:=ts },type:=ty,pos,after,guard } σ=(minAV g.P ts ty (opnd σ.env x) (opnd σ.env y)).map fun v=>(.one (.s v),σ):=by
 have:scalarOp g.P σ.env { dst,op:=.call { callee:=.builtin .min,args:=#[x,y],argTypes:=ts },type:=ty,pos,after,guard }=minAV g.P ts ty (opnd σ.env x) (opnd σ.env y):=by
  unfold scalarOp minAV
  have h1:(Op.call { callee:=.builtin .min,args:=#[x,y],argTypes:=ts }).operands.all (fun x=>(sclr (opnd σ.env x)).isSome)=((sclr (opnd σ.env x)).isSome && (sclr (opnd σ.env y)).isSome):=by
   rw [show (Op.call { callee:=.builtin .min,args:=#[x,y],argTypes:=ts }).operands = #[x,y] from rfl]
   have h:∀ p:Operand→Bool,#[x,y].all p=(p x && p y):=fun p=>by simp
   exact h _
  simp only [h1]
  split
  ·have h3:execOp (fun x=>(sclr (opnd σ.env x)).getD undef) { dst,op:=.call { callee:=.builtin .min,args:=#[x,y],argTypes:=ts },type:=ty,pos,after,guard }=(do pure (.value (← Builtin.min_ ts ty #[(sclr (opnd σ.env x)).getD undef,(sclr (opnd σ.env y)).getD undef]))):=ex_min ..
   rw [h3,zch]
   generalize pureOf g.P (Builtin.min_ ts ty #[(sclr (opnd σ.env x)).getD undef,(sclr (opnd σ.env y)).getD undef])=q
   cases q with
   | none=>rfl
   | some v=>rfl
  ·rfl
 simp only [opE,this]
 cases minAV g.P ts ty (opnd σ.env x) (opnd σ.env y) <;> rfl
theorem s_min {g:Cfg} {d f:Nat} (dst:Option Nat) (pos:String) (after:Array Edge) (ty:TypeId) (guard:Option (Nat × Bool)) (ts:Array TypeId) (ops:Array Oper) (l:List Oper) (K:List It) (σ:St) (x y:Operand) :
 stK g d f ops { dst,op:=.call { callee:=.builtin .min,args:=#[x,y],argTypes:=ts },type:=ty,pos,after,guard } l K σ=putK g d f ops dst l K ((minAV g.P ts ty (opnd σ.env x) (opnd σ.env y)).map fun v=>(.one (.s v),σ)):=by
 rw [st_op _ _ _ _ _ (by simp),opE_min]
@[simp] theorem min_int (P:Program) (ts:Array TypeId) (ty:TypeId) (a b:Int):minAV P ts ty (.one (.s (.int .i64 a))) (.one (.s (.int .i64 b)))=some (.int .i64 (minI a b)):=by
 have h:pureOf P (Builtin.min_ ts ty #[.int .i64 a,.int .i64 b])=some (.int .i64 (minI a b)):=rfl
 simp [minAV,sclr,h,scal]
attribute [simp] s_min
end Go.Ev


namespace Go.Ev
open Go.RowKit
def joinL (l:List ByteArray) (sep:ByteArray):List UInt8:=Lib.join (l.map (·.data.toList)) sep.data.toList
def joinF (l:List ByteArray) (sep:ByteArray):Option ByteArray:=if l.length≤1000000∧(joinL l sep).length≤1000000000 then some ⟨(joinL l sep).toArray⟩ else none
def digF (n:Int):Option ByteArray:=if 0≤n∧n < 10 then some ⟨#[UInt8.ofNat (48+n.toNat)]⟩ else none

theorem two_args {w:World} {G:Gh} {vals:Array Value} {x y:AV} (h:ArgsOK w G [x,y] vals):∃ u v,vals = #[u,v]∧(∀ d t,RA w G (.slot d t) x u)∧∀ d t,RA w G (.slot d t) y v:=by
 obtain ⟨h1,h2⟩:=h
 obtain ⟨u,hu,hr⟩:=h2 0 x rfl
 obtain ⟨v,hv,hs⟩:=h2 1 y rfl
 refine ⟨u,v,?_,hr,hs⟩
 apply Array.ext_getElem?
 intro i
 match i with
 | 0=>rw [hu];rfl
 | 1=>rw [hv];rfl
 | i+2=>rw [Array.getElem?_eq_none (by rw [h1];simp)];rfl

theorem encL_strs (xs:List ByteArray):encL xs=xs.map fun x=>D.sc (.string x):=by
 induction xs with
 | nil=>rfl
 | cons x xs ih=>rw [zax,ih];rfl
theorem pc_join {P:Program} {f:Nat} (hE:Enters P f)
 (h0:∀ (a:Option Addr) (c:Nat) (sep:ByteArray) (w:World),Calls P f #[.slice a 0 c,.string sep] w fun e w'=>e=.returned (.string ⟨#[]⟩)∧Below w.heap.size w w')
 (h1:∀ (b o c:Nat) (xs:List ByteArray) (sep:ByteArray) (w:World),xs≠[]→(∀ (j:Nat) x,xs[j]?=some x→w.cell? ⟨b,o+j,none⟩=some (.string x))→b < w.heap.size→xs.length≤1000000→xs.length≤c→(joinL xs sep).length≤1000000000 →
  Calls P f #[.slice (some ⟨b,o,none⟩) xs.length c,.string sep] w fun e w'=>e=.returned (.string ⟨(joinL xs sep).toArray⟩)∧Below w.heap.size w w') :
 PC P f (specP (X:=List ByteArray × ByteArray × Unit) fun x=>joinF x.1 x.2.1):=by
 refine ⟨hE,fun args r hr G w vals hG hL hage hA=>?_⟩
 unfold specP at hr
 split at hr
 ·rename_i hx
  obtain ⟨y,hy,rfl⟩:=Option.map_eq_some_iff.1 hr
  have ha:=Classical.choose_spec hx
  generalize Classical.choose hx=x at hy ha
  subst ha
  obtain ⟨xs,sep,_⟩:=x
  simp only [joinF] at hy
  split at hy
  ·rename_i hc
   cases hy
   obtain ⟨v,v',rfl,hv,hv'⟩:=two_args (x:=av .shr xs) (y:=av .shr sep) hA
   obtain ⟨rfl,_⟩:v'=.string sep∧_:=hv' 0 0
   have hv:RD w G (.slot 0 0) .shr [] (.sl xs.length (encL xs)) v:=hv 0 0
   rw [RD] at hv
   rcases hv with ⟨e0,e1,a,cap,rfl,_⟩|⟨e0,e1,b,off,cap,rfl,hcap,_,hs⟩
   ·have:xs=[]:=List.length_eq_zero_iff.1 e1
    subst this
    refine (h0 a cap sep w).mono fun e w' hh=>?_
    obtain ⟨rfl,hb⟩:=hh
    exact ⟨_,G,rfl,⟨by simp [joinL,Lib.join_nil],rfl⟩,hb.size,zhw hb hb.size,fun b hlt=>⟨hb.block b hlt,rfl,rfl⟩,fun b t ho=>Nat.lt_of_lt_of_le (hG b t ho).2 hb.size⟩
   ·have hcell:∀ (j:Nat) x,xs[j]?=some x→w.cell? ⟨b,off+j,none⟩=some (.string x):=fun j x hj=>by
     obtain ⟨u,hu,hr⟩:=zpj hs j (.sc (.string x)) (by
      rw [encL_strs,List.getElem?_map,hj];rfl)
     rw [RD] at hr
     obtain ⟨rfl,_⟩:=hr
     simpa using hu
    have hne:xs≠[]:=fun h=>by subst h;simp at e1
    have hb:b < w.heap.size:=zjt (hcell 0 xs[0] (List.getElem?_eq_getElem e1))
    refine (h1 b off cap xs sep w hne hcell hb hc.1 hcap hc.2).mono fun e w' hh=>?_
    obtain ⟨rfl,hb⟩:=hh
    exact ⟨_,G,rfl,⟨rfl,rfl⟩,hb.size,zhw hb hb.size,fun b hlt=>⟨hb.block b hlt,rfl,rfl⟩,fun b t ho=>Nat.lt_of_lt_of_le (hG b t ho).2 hb.size⟩
  ·cases hy
 ·cases hr

theorem pc_dig {P:Program} {f:Nat} (hE:Enters P f) (h:∀ (k:Nat) (w:World),k < 10→Calls P f #[.int .i64 k] w fun e w'=>e=.returned (.string ⟨#[UInt8.ofNat (48+k)]⟩)∧Below w.heap.size w w') :
 PC P f (specP (X:=Int × Unit) fun x=>digF x.1):=by
 refine ⟨hE,fun args r hr G w vals hG hL hage hA=>?_⟩
 unfold specP at hr
 split at hr
 ·rename_i hx
  obtain ⟨y,hy,rfl⟩:=Option.map_eq_some_iff.1 hr
  have ha:=Classical.choose_spec hx
  generalize Classical.choose hx=x at hy ha
  subst ha
  obtain ⟨k,_⟩:=x
  simp only [digF] at hy
  split at hy
  ·rename_i hc
   cases hy
   obtain ⟨n,rfl⟩:=Int.eq_ofNat_of_zero_le hc.1
   obtain ⟨v,rfl,hv⟩:=one_arg (x:=av .shr (n:Int)) hA
   obtain ⟨rfl,_⟩:v=.int .i64 n∧_:=hv 0 0
   refine (h n w (by omega)).mono fun e w' hh=>?_
   obtain ⟨rfl,hb⟩:=hh
   exact ⟨_,G,rfl,⟨rfl,rfl⟩,hb.size,zhw hb hb.size,fun b hlt=>⟨hb.block b hlt,rfl,rfl⟩,fun b t ho=>Nat.lt_of_lt_of_le (hG b t ho).2 hb.size⟩
  ·cases hy
 ·cases hr
end Go.Ev


namespace Go.Ev

structure Mvd (w:World) (G:Gh) (w':World) (G':Gh) (o:Ow) (p:List Nat) (o':Ow) (p':List Nat):Prop where
 tag:∀ b q,b < w.heap.size→G.own b=some (.at o (p ++ q))→G'.own b=some (.at o' (p' ++ q))∧G'.use b=G.use b∧w'.heap[b]?=w.heap[b]?
 nil:∀ b,b < w.heap.size→G.own b=none→G'.own b=none∧G.use b≤G'.use b∧w'.heap[b]?=w.heap[b]?

theorem Mvd.sub {w:World} {G:Gh} {w':World} {G':Gh} {o:Ow} {p:List Nat} {o':Ow} {p':List Nat} (h:Mvd w G w' G' o p o' p') (i:List Nat) :
 Mvd w G w' G' o (p ++ i) o' (p' ++ i) :=
 ⟨fun b q hb hq=>by rw [List.append_assoc] at hq ⊢; exact h.tag b (i ++ q) hb hq,h.nil⟩

theorem cell_heap {w w':World} {b:Nat} (h:w'.heap[b]?=w.heap[b]?) (o:Nat):w'.cell? ⟨b,o,none⟩=w.cell? ⟨b,o,none⟩:=by
 unfold World.cell?
 simp only [h]

mutual
theorem Mvd.rd {w:World} {G:Gh} {w':World} {G':Gh} {o:Ow} {p:List Nat} {o':Ow} {p':List Nat} (h:Mvd w G w' G' o p o' p') :
 ∀ {d:D} {m:Md} {v:Value},m≠.bor→RD w G o m p d v→RD w' G' o' m p' d v
 | .sc x,m,v,_,hr=>by rw [RD] at hr ⊢; exact hr
 | .sl n cs,m,v,hm,hr=>by
  rw [RD] at hr ⊢
  rcases hr with hr | ⟨h1,h2,b,off,cap,hv,hc,hn,hs⟩
  ·exact .inl hr
  ·obtain ⟨c,cs',rfl⟩:=List.exists_cons_of_ne_nil h1
   have hb:b < w.heap.size:=by
    rw [RDs] at hs
    obtain ⟨⟨v',hv',_⟩,_⟩:=hs
    exact zjt hv'
   have hh:w'.heap[b]?=w.heap[b]?:=by
    cases m with
    | own=>exact (h.tag b [] hb (by simpa using hn.1)).2.2
    | top=>exact (h.tag b [] hb (by simpa using hn.1)).2.2
    | shr=>exact (h.nil b hb hn.1).2.2
    | bor=>exact absurd rfl hm
   refine .inr ⟨h1,h2,b,off,cap,hv,hc,?_,Mvd.rds h hb hh (by cases m <;> simp_all [Md.elem]) hs⟩
   cases m with
   | own=>exact ⟨by simpa using (h.tag b [] hb (by simpa using hn.1)).1,by rw [(h.tag b [] hb (by simpa using hn.1)).2.1];exact hn.2.1,hn.2.2.1,by rw [hh];exact hn.2.2.2⟩
   | top=>exact ⟨by simpa using (h.tag b [] hb (by simpa using hn.1)).1,by rw [(h.tag b [] hb (by simpa using hn.1)).2.1];exact hn.2.1,hn.2.2.1,by rw [hh];exact hn.2.2.2⟩
   | shr=>exact ⟨(h.nil b hb hn.1).1,Nat.le_trans hn.2 (h.nil b hb hn.1).2.1⟩
   | bor=>exact absurd rfl hm
theorem Mvd.rds {w:World} {G:Gh} {w':World} {G':Gh} {o:Ow} {p:List Nat} {o':Ow} {p':List Nat} (h:Mvd w G w' G' o p o' p') :
 ∀ {cs:List D} {m:Md} {b off i:Nat},b < w.heap.size→w'.heap[b]?=w.heap[b]?→m≠.bor→RDs w G o m p b off i cs→RDs w' G' o' m p' b off i cs
 | [],m,b,off,i,_,_,_,_=>by rw [RDs];trivial
 | d :: ds,m,b,off,i,hb,hh,hm,hr=>by
  rw [RDs] at hr ⊢
  obtain ⟨⟨v,hv,hd⟩,hr⟩:=hr
  exact ⟨⟨v,by rw [cell_heap hh];exact hv,Mvd.rd (h.sub [i]) hm hd⟩,Mvd.rds h hb hh hm hr⟩
end

theorem own_cells {w:World} {G:Gh} {o:Ow} {p:List Nat} {n sz:Nat} {xs:List D} {v:Value} (hz:0 < sz) (hl:xs.length=n * sz) (h:RD w G o .own p (.sl n xs) v) :
 (n=0∧∃ a,v=.slice a 0 0)∨(0 < n∧∃ b cap arr e,v=.slice (some ⟨b,0,none⟩) n cap∧n≤cap∧G.own b=some (.at o p)∧G.use b=n * sz∧b < w.heap.size∧w.heap[b]?=some (.cells arr e (0,0))∧cap * sz≤arr.size ∧
  ∀ j d,xs[j]?=some d→∃ u,arr[j]?=some u∧RD w G o .own (p ++ [j]) d u):=by
 rw [RD] at h
 rcases h with ⟨h1,h2,a,cap,rfl,hc⟩|⟨h1,h2,b,off,cap,rfl,hc,hn,hs⟩
 ·refine .inl ⟨h2,a,?_⟩
  rw [hc rfl]
 ·obtain ⟨ho,hu,rfl,arr,e,hh,hcap⟩:=hn
  refine .inr ⟨h2,b,cap,arr,e,rfl,hc,ho,by omega,?_,hh,by simpa using hcap sz hl,fun j d hj=>?_⟩
  ·rcases Nat.lt_or_ge b w.heap.size with h | h
   ·exact h
   ·simp [Array.getElem?_eq_none h] at hh
  ·obtain ⟨u,hu,hr⟩:=zpj hs j d hj
   refine ⟨u,?_,by simpa using hr⟩
   unfold World.cell? at hu
   simpa [hh] using hu

theorem rd_one {w:World} {G:Gh} {o:Ow} {m:Md} {p:List Nat} {d:D} {v:Value} (h:RD w G o m p d v):v.oneCell'=true:=by
 cases d with
 | sc x =>
  rw [RD] at h
  obtain ⟨rfl,h⟩:=h
  cases v <;> first | rfl | cases h
 | sl n cs =>
  rw [RD] at h
  rcases h with ⟨_,_,a,cap,rfl,_⟩|⟨_,_,b,off,cap,rfl,_⟩ <;> rfl

def insAt (t sz j:Nat):Nat:=if j < t then j else j+sz
open Classical in
def insOwn (G:Gh) (g t sz:Nat) (b:Nat):Option Tag :=
 if b=g then some (.at .ret []) else
 match G.own b with
 | some (.at (.slot 1 0) (j :: q))=>some (.at .ret (insAt t sz j :: q))
 | some (.at (.slot 1 2) (j :: q))=>some (.at .ret ((t+j) :: q))
 | s=>if touch 1 s then some .foreign else s


structure InsOK (w w':World) (base:Option Addr) (t sz n:Nat) (vs us:List Value) (v:Value):Prop where
 val:∃ (g cap:Nat) (arr:Array Value) (e:TypeId),v=.slice (some ⟨g,0,none⟩) (n+1) cap∧n+1≤cap∧w'.heap[g]?=some (.cells arr e (0,0))∧cap * sz≤arr.size ∧
  (∀ j:Nat,(vs.take t ++ us ++ vs.drop t)[j]?≠none→arr[j]?=(vs.take t ++ us ++ vs.drop t)[j]?)∧(w.heap.size≤g∨0 < n∧base=some ⟨g,0,none⟩)
 size:w.heap.size≤w'.heap.size
 kept:Kept w w'
 same:∀ b,b < w.heap.size→(0 < n→base≠some ⟨b,0,none⟩)→w'.heap[b]?=w.heap[b]?

theorem callE_ins {P:Program} {f n sz i:Nat} {xs cs:List D} (hE:Enters P f) (hz:0 < sz) (hx:xs.length=n * sz) (hc:cs.length=sz) (hi:i≤n)
 (H:∀ (w:World) (base:Option Addr) (cap b2 c2:Nat) (vs us:List Value),vs.length=n * sz→us.length=sz→n≤cap→(n=0→cap=0) →
  (0 < n→∃ (b1:Nat) (arr:Array Value) (e:TypeId),base=some ⟨b1,0,none⟩∧b1≠b2∧b1 < w.heap.size∧w.heap[b1]?=some (.cells arr e (0,0))∧cap * sz≤arr.size∧∀ (j:Nat) v,vs[j]?=some v→arr[j]?=some v) →
  1≤c2→b2 < w.heap.size→(∃ (arr:Array Value) (e:TypeId),w.heap[b2]?=some (.cells arr e (0,0))∧c2 * sz≤arr.size∧∀ (j:Nat) v,us[j]?=some v→arr[j]?=some v) →
  (∀ v∈vs,v.oneCell'=true)→(∀ v∈us,v.oneCell'=true) →
  Calls P f #[.slice base n cap,.int .i64 i,.slice (some ⟨b2,0,none⟩) 1 c2] w fun e w'=>∃ v,e=.returned v∧InsOK w w' base (i * sz) sz n vs us v) :
 CallE P 0 f [.one (.l .own n xs),.one (.s (.int .i64 i)),.one (.l .own 1 cs)] mem0 mem0 (.one (.l .own (n+1) (xs.take (i * sz) ++ cs ++ xs.drop (i * sz)))):=by
 refine ⟨hE,fun G w vals hsz hargs hM _=>?_⟩
 obtain ⟨v0,hv0,hr0⟩:=hargs 0 _ rfl
 obtain ⟨v1,hv1,hr1⟩:=hargs 1 _ rfl
 obtain ⟨v2,hv2,hr2⟩:=hargs 2 _ rfl
 obtain ⟨rfl,_⟩:=hr1
 have hvals:vals = #[v0,.int .i64 i,v2]:=by
  apply Array.ext_getElem?
  intro k
  match k with
  | 0=>simpa using hv0
  | 1=>simpa using hv1
  | 2=>simpa using hv2
  | k+3 =>
   rw [Array.getElem?_eq_none (by have : vals.size = 3 := by simpa using hsz
                                  omega)]
   rfl
 subst hvals

 rcases own_cells (n:=1) hz (by omega) hr2 with ⟨h0,_⟩|⟨_,b2,c2,arr2,e2,rfl,hc2,ho2,hu2,hb2,hh2,hcap2,hget2⟩
 ·omega
 have hus:∃ us:List Value,us.length=sz∧∀ j d,cs[j]?=some d→∃ u,us[j]?=some u∧arr2[j]?=some u∧RD w G (.slot 1 2) .own [j] d u:=by
  refine ⟨arr2.toList.take sz,?_,fun j d hj=>?_⟩
  ·have:sz≤arr2.size:=Nat.le_trans (Nat.le_mul_of_pos_left _ (by omega)) hcap2
   simp;omega
  ·obtain ⟨u,hu,hr⟩:=hget2 j d hj
   have hj':=(List.getElem?_eq_some_iff.1 hj).1
   refine ⟨u,?_,hu,hr⟩
   rw [List.getElem?_take,if_pos (by omega)]
   simpa using hu
 obtain ⟨us,hul,hus⟩:=hus
 have hvs:∃ (vs:List Value) (base:Option Addr) (cap:Nat),vs.length=n * sz∧v0=.slice base n cap∧n≤cap∧(n=0→cap=0)∧(∀ j d,xs[j]?=some d→∃ u,vs[j]?=some u∧RD w G (.slot 1 0) .own [j] d u) ∧
  (0 < n→∃ (b1:Nat) (arr:Array Value) (e:TypeId),base=some ⟨b1,0,none⟩∧b1 < w.heap.size∧w.heap[b1]?=some (.cells arr e (0,0))∧cap * sz≤arr.size∧G.own b1=some (.at (.slot 1 0) [])∧G.use b1=n * sz∧∀ (j:Nat) v,vs[j]?=some v→arr[j]?=some v):=by
  rcases own_cells hz hx hr0 with ⟨h0,a,rfl⟩|⟨hn,b1,cap,arr,e,rfl,hcc,ho,hu,hb,hh,hca,hget⟩
  ·subst h0
   have:xs=[]:=List.length_eq_zero_iff.1 (by omega)
   subst this
   exact ⟨[],a,0,by simp,rfl,Nat.le_refl _,fun _=>rfl,fun j d hj=>by simp at hj,fun h=>by omega⟩
  ·have hlt:n * sz≤arr.size:=Nat.le_trans (Nat.mul_le_mul_right _ hcc) hca
   have hk:∀ j,j < n * sz→(arr.toList.take (n * sz))[j]?=arr[j]?:=fun j hj=>by
    rw [List.getElem?_take,if_pos hj];simp
   refine ⟨arr.toList.take (n * sz),some ⟨b1,0,none⟩,cap,by simp;omega,rfl,hcc,fun h=>by omega,fun j d hj=>?_,fun _=>⟨b1,arr,e,rfl,hb,hh,hca,ho,hu,fun j v hj=>?_⟩⟩
   ·obtain ⟨u,hu,hr⟩:=hget j d hj
    have hj':=(List.getElem?_eq_some_iff.1 hj).1
    exact ⟨u,by rw [hk j (by omega)];exact hu,hr⟩
   ·have hj':=(List.getElem?_eq_some_iff.1 hj).1
    rw [List.length_take] at hj'
    rw [← hk j (by omega)];exact hj
 obtain ⟨vs,base,cap,hvl,rfl,hcap,hcap0,hvs,hrow⟩:=hvs
 have one:∀ (l:List D) (us:List Value) (o:Ow),us.length=l.length→(∀ j d,l[j]?=some d→∃ u,us[j]?=some u∧RD w G o .own [j] d u)→∀ v∈us,v.oneCell'=true:=fun l us o hl h v hv=>by
  obtain ⟨j,hj⟩:=List.mem_iff_getElem?.1 hv
  have hj':=(List.getElem?_eq_some_iff.1 hj).1
  obtain ⟨u,hu,hr⟩:=h j l[j] (List.getElem?_eq_getElem (by omega))
  rw [hj] at hu
  cases hu
  exact rd_one hr
 refine (H w base cap b2 c2 vs us hvl hul hcap hcap0 (fun hn=>?_) hc2 hb2 ⟨arr2,e2,hh2,hcap2,fun j v hj=>?_⟩ (one xs vs (.slot 1 0) (by omega) hvs) (one cs us (.slot 1 2) (by omega) fun j d hj=>?_)).mono fun e w' hh=>?_
 ·obtain ⟨b1,arr,e,h1,h2,h3,h4,h5,h6,h7⟩:=hrow hn
  refine ⟨b1,arr,e,h1,?_,h2,h3,h4,h7⟩
  rintro rfl
  rw [h5] at ho2
  simp at ho2
 ·have hj':=(List.getElem?_eq_some_iff.1 hj).1
  obtain ⟨u,h1,h2,_⟩:=hus j cs[j] (List.getElem?_eq_getElem (by omega))
  rw [hj] at h1
  cases h1
  exact h2
 ·obtain ⟨u,h1,_,h3⟩:=hus j d hj
  exact ⟨u,h1,h3⟩
 obtain ⟨v,rfl,hv,hsize,hkept,hsame⟩:=hh
 obtain ⟨g,cap',arr',e',rfl,hcap',hheap,hca',hcells,hg⟩:=hv

 have hold:∀ b,b < w.heap.size→b=g→0 < n∧base=some ⟨b,0,none⟩∧G.own b=some (.at (.slot 1 0) [])∧G.use b=n * sz∧1≤G.age b:=fun b hb he=>by
  subst he
  rcases hg with hg | ⟨hn,hg⟩
  ·omega
  ·obtain ⟨b1,arr,e,h1,_,_,_,h5,h6,_⟩:=hrow hn
   rw [h1] at hg
   obtain rfl:b1=b:=by cases hg;rfl
   exact ⟨hn,h1,h5,h6,hM.aged b1 _ h5⟩
 have hbase:∀ b,b < w.heap.size→G.own b≠some (.at (.slot 1 0) [])→w'.heap[b]?=w.heap[b]?:=fun b hb ho=>hsame b hb fun hn he=>by
  obtain ⟨b1,arr,e,h1,_,_,_,h5,_,_⟩:=hrow hn
  rw [h1] at he
  obtain rfl:b1=b:=by cases he;rfl
  exact ho h5
 have hmul:(n+1) * sz=n * sz+sz:=Nat.succ_mul n sz
 have hti:i * sz≤n * sz:=Nat.mul_le_mul_right _ hi
 let G':Gh:={ G with own:=insOwn G g (i * sz) sz,use:=fun b=>if b=g then (n+1) * sz else G.use b,age:=fun _=>0 }
 have hown:∀ b,G'.own b=insOwn G g (i * sz) sz b:=fun b=>rfl
 have huse:∀ b,G'.use b=if b=g then (n+1) * sz else G.use b:=fun b=>rfl
 have hbox:∀ b k,G'.own b≠some (.box k):=fun b k hb=>by
  rw [hown] at hb
  unfold insOwn at hb
  split at hb
  ·cases hb
  ·split at hb
   ·cases hb
   ·cases hb
   ·split at hb
    ·cases hb
    ·rename_i ht;rw [hb] at ht;exact ht trivial
 have htag:∀ b t,G'.own b=some t→t.dep 0=0∧(b=g∨G.own b≠none)∧∀ k p,t≠.at (.cell k) p:=fun b t hb=>by
  rw [hown] at hb
  unfold insOwn at hb
  split at hb
  ·cases hb;exact ⟨rfl,.inl ‹_›,fun _ _ h=>by cases h⟩
  ·split at hb
   ·rename_i h;cases hb;exact ⟨rfl,.inr (by rw [h];simp),fun _ _ h=>by cases h⟩
   ·rename_i h;cases hb;exact ⟨rfl,.inr (by rw [h];simp),fun _ _ h=>by cases h⟩
   ·split at hb
    ·rename_i ht;cases hb
     exact ⟨rfl,.inr (fun h0=>by rw [h0] at ht;exact ht),fun _ _ h=>by cases h⟩
    ·rename_i ht
     refine ⟨?_,.inr (by rw [hb];simp),fun k p h=>by rw [hb,h] at ht;exact ht trivial⟩
     rw [hb] at ht
     cases t with
     | foreign=>rfl
     | box k=>exact absurd trivial ht
     | «at» o p =>
      cases o with
      | slot e j =>
       have ht:¬ 1≤e:=ht
       show e=0
       omega
      | cell k=>exact absurd trivial ht
      | ret=>exact absurd trivial ht
 have hmv:∀ (a j j':Nat),(∀ b q,G.own b=some (.at (.slot 1 a) (j :: q))→b≠g→insOwn G g (i * sz) sz b=some (.at .ret (j' :: q)))→Mvd w G w' G' (.slot 1 a) [j] .ret [j']:=fun a j j' h=>by
  refine ⟨fun b q hb hq=>?_,fun b hb hn=>?_⟩
  ·have hne:b≠g:=fun he=>by
    obtain ⟨_,_,h3,_⟩:=hold b hb he
    rw [h3] at hq;simp at hq
   exact ⟨h b q hq hne,by rw [huse,if_neg hne],hbase b hb (by rw [hq];simp)⟩
  ·have hne:b≠g:=fun he=>by
    obtain ⟨_,_,h3,_⟩:=hold b hb he
    rw [h3] at hn;cases hn
   refine ⟨?_,by rw [huse,if_neg hne];exact Nat.le_refl _,hbase b hb (by rw [hn];simp)⟩
   rw [hown]
   unfold insOwn
   rw [if_neg hne,hn]
   simp [touch]
 have hgl:g < w'.heap.size:=by
  rcases Nat.lt_or_ge g w'.heap.size with h | h
  ·exact h
  ·simp [Array.getElem?_eq_none h] at hheap
 have hlen:(xs.take (i * sz) ++ cs ++ xs.drop (i * sz)).length=(n+1) * sz:=by simp only [List.length_append,List.length_take,List.length_drop,hx,hc,Nat.min_eq_left hti];omega
 refine ⟨_,G',rfl,?_,?_,?_⟩
 ·show RD w' G' .ret .own [] (.sl (n+1) (xs.take (i * sz) ++ cs ++ xs.drop (i * sz))) _
  rw [RD]
  refine .inr ⟨fun h0=>by rw [h0] at hlen;simp at hlen;omega,by omega,g,0,cap',rfl,hcap',⟨?_,?_,rfl,arr',e',hheap,fun sz' hs=>?_⟩,zke fun j d hd=>?_⟩
  ·rw [hown];simp [insOwn]
  ·rw [huse,if_pos rfl,hlen,Nat.zero_add]
  ·rw [hlen] at hs
   have:sz=sz':=Nat.eq_of_mul_eq_mul_left (by omega) hs
   subst this
   omega
  ·have hj:=(List.getElem?_eq_some_iff.1 hd).1
   rw [hlen] at hj
   have hsome:(vs.take (i * sz) ++ us ++ vs.drop (i * sz))[j]?≠none:=by
    intro h0
    rw [List.getElem?_eq_none_iff] at h0
    simp only [List.length_append,List.length_take,List.length_drop,hvl,hul,Nat.min_eq_left hti] at h0
    omega
   have hcell:∀ u,(vs.take (i * sz) ++ us ++ vs.drop (i * sz))[j]?=some u→w'.cell? ⟨g,0+(0+j),none⟩=some u:=fun u hu=>by
    unfold World.cell?
    simp only [hheap]
    have:=hcells j hsome
    rw [hu] at this
    simpa using this
   simp only [Nat.zero_add,List.nil_append] at hcell ⊢
   rcases Nat.lt_or_ge j (i * sz) with h1 | h1
   ·rw [List.append_assoc,List.getElem?_append_left (by simp only [List.length_take,hx,Nat.min_eq_left hti];omega),List.getElem?_take,if_pos h1] at hd
    obtain ⟨u,hu,hr⟩:=hvs j d hd
    refine ⟨u,hcell u ?_,(hmv 0 j j fun b q hq hne=>?_).rd (by simp) hr⟩
    ·rw [List.append_assoc,List.getElem?_append_left (by simp only [List.length_take,hvl,Nat.min_eq_left hti];omega),List.getElem?_take,if_pos h1];exact hu
    ·unfold insOwn
     rw [if_neg hne,hq]
     simp [insAt,h1]
   ·rcases Nat.lt_or_ge j (i * sz+sz) with h2 | h2
    ·rw [List.append_assoc,List.getElem?_append_right (by simp only [List.length_take,hx,Nat.min_eq_left hti];omega),List.getElem?_append_left (by simp only [List.length_take,hx,hc,Nat.min_eq_left hti];omega)] at hd
     rw [List.length_take,hx,Nat.min_eq_left hti] at hd
     obtain ⟨u,hu,_,hr⟩:=hus _ d hd
     refine ⟨u,hcell u ?_,?_⟩
     ·rw [List.append_assoc,List.getElem?_append_right (by simp only [List.length_take,hvl,Nat.min_eq_left hti];omega),List.getElem?_append_left (by simp only [List.length_take,hvl,hul,Nat.min_eq_left hti];omega),List.length_take,hvl,Nat.min_eq_left hti];exact hu
     ·refine (hmv 2 (j - i * sz) j fun b q hq hne=>?_).rd (by simp) hr
      unfold insOwn
      rw [if_neg hne,hq]
      simp
      omega
    ·rw [List.append_assoc,List.getElem?_append_right (by simp only [List.length_take,hx,Nat.min_eq_left hti];omega),List.getElem?_append_right (by simp only [List.length_take,hx,hc,Nat.min_eq_left hti];omega)] at hd
     rw [List.length_take,hx,Nat.min_eq_left hti,hc,List.getElem?_drop] at hd
     obtain ⟨u,hu,hr⟩:=hvs _ d hd
     refine ⟨u,hcell u ?_,?_⟩
     ·rw [List.append_assoc,List.getElem?_append_right (by simp only [List.length_take,hvl,Nat.min_eq_left hti];omega),List.getElem?_append_right (by simp only [List.length_take,hvl,hul,Nat.min_eq_left hti];omega),List.length_take,hvl,Nat.min_eq_left hti,hul,List.getElem?_drop];exact hu
     ·refine (hmv 0 (i * sz+(j - i * sz - sz)) j fun b q hq hne=>?_).rd (by simp) hr
      unfold insOwn
      rw [if_neg hne,hq]
      have e1:insAt (i * sz) sz (i * sz+(j - i * sz - sz))=j:=by
       unfold insAt
       rw [if_neg (by omega)]
       omega
      show some (Tag.at .ret (insAt (i * sz) sz (i * sz+(j - i * sz - sz)) :: q))=_
      rw [e1]
 ·exact {
   cells:=fun k cs hk=>by cases hk
   live:=hM.live
   dep:=fun k hk=>by have:=(hM.live k).1 hk;cases this
   wf:=fun b t hb=>by
    rcases (htag b t hb).2.1 with rfl | h1
    ·exact hgl
    ·cases ho:G.own b with
     | none=>exact absurd ho h1
     | some t0=>exact Nat.lt_of_lt_of_le (hM.wf b t0 ho) hsize
   wfb:=fun b k hb=>absurd hb (hbox b k)
   wfc:=fun b k p hb=>absurd rfl ((htag b _ hb).2.2 k p)
   age:=fun b=>Nat.le_refl _
   fut:=fun b _=>rfl
   aged:=fun b t hb=>Nat.le_of_eq (htag b t hb).1 }
 ·have hng:∀ b,b < w.heap.size→¬ touch 1 (G.own b)→b≠g:=fun b hb ht he=>by
   obtain ⟨_,_,h3,_⟩:=hold b hb he
   rw [h3] at ht;exact ht (Nat.le_refl _)
  have hna:∀ b,b < w.heap.size→G.age b < 1→b≠g:=fun b hb ha he=>by
   obtain ⟨_,_,_,_,h5⟩:=hold b hb he
   omega
  exact {
   size:=hsize
   kept:=hkept
   same:=fun b hb ht=>by
    have hne:=hng b hb ht
    refine ⟨hbase b hb fun h=>ht (by rw [h];exact Nat.le_refl _),?_,by rw [huse,if_neg hne]⟩
    rw [hown]
    unfold insOwn
    rw [if_neg hne]
    split
    ·rename_i h;rw [h] at ht;exact absurd (Nat.le_refl 1) ht
    ·rename_i h;rw [h] at ht;exact absurd (Nat.le_refl 1) ht
    ·rw [if_neg ht]
   age:=fun b hb ha=>by show 0=G.age b;omega
   box:=fun b hb ha hk k=>hbox b k
   use:=fun b hb ha=>by rw [huse,if_neg (hna b hb ha)];exact Nat.le_refl _
   cell:=fun b off hb ha _ _=>cell_heap (hbase b hb fun h=>by
    have:=hM.aged b _ h
    have:1≤G.age b:=this
    omega) off
   live:=fun k hk _=>⟨hk,rfl,rfl⟩
   back:=fun _ _ h=>.inl h
   up:=fun _ _=>Nat.le_refl _ }

theorem zjp {P:Program} (w:World) (dT sT ty elem:TypeId) (size b o dLen dCap:Nat) (a:Addr) (sLen sCap:Nat) (cs:List Value)
 (hu:P.underlying dT=some (.slice elem)) (hs:(P.info? elem).map (·.size)=some size) (hn:cs.length=Nat.min sLen dLen * size)
 (hsrc:∀ j v,cs[j]?=some v→w.cell? (a.add j)=some v) (hc:∀ j,j < cs.length→(w.cell? ⟨b,o+j,none⟩).isSome=true) (hf:∀ j,j < cs.length→w.frozen? ⟨b,o+j,none⟩=false) (h1:∀ v∈cs,v.oneCell'=true) :
 (Builtin.copy_ #[dT,sT] ty #[.slice (some ⟨b,o,none⟩) dLen dCap,.slice (some a) sLen sCap]).run P w=.ok (goInt (Nat.min sLen dLen)) (w.setCells b o cs):=by
 have hl:=run_loadCells_list (P:=P) w a cs hsrc
 have hst:=run_storeCells_cells (P:=P) b o cs 0 w (by simpa using hc) (by simpa using hf) h1
 cases hq:P.info? elem with
 | none=>simp [hq] at hs
 | some i =>
  have hi:i.size=size:=by simpa [hq] using hs
  rw [hn] at hl
  simp [Builtin.copy_,run_underlying hu,Builtin.lenOf,Builtin.firstCells,sizeOf,typeInfo,hq,hi,hl,hst]

def insF {α:Type} (s:List α) (i:Int) (v:List α):Option (List α) :=
 match v with
 | [x]=>if 0≤i∧i≤(s.length:Int)∧s.length≤3000000 then some (s.take i.toNat ++ x :: s.drop i.toNat) else none
 | _=>none
theorem encL_app {α:Type} [Enc α] (xs ys:List α):encL (xs ++ ys)=encL xs ++ encL ys:=by
 induction xs with
 | nil=>rfl
 | cons x xs ih=>rw [List.cons_append,zax,zax,ih,List.append_assoc]
theorem encL_cut {α:Type} [Enc α] (xs:List α) (k:Nat) (h:k≤xs.length):encL (xs.take k)=(encL xs).take (k * Enc.sz α)∧encL (xs.drop k)=(encL xs).drop (k * Enc.sz α):=by
 have h1:encL xs=encL (xs.take k) ++ encL (xs.drop k):=by rw [← encL_app,List.take_append_drop]
 have h2:(encL (xs.take k)).length=k * Enc.sz α:=by rw [zcj,List.length_take,Nat.min_eq_left h]
 rw [h1]
 exact ⟨(List.take_left' h2).symm,(List.drop_left' h2).symm⟩
theorem po_insert {P:Program} {f:Nat} {α:Type} [Enc α] (hE:Enters P f) (hz:0 < Enc.sz α)
 (H:∀ (n i:Nat),i≤n→n≤3000000→∀ (w:World) (base:Option Addr) (cap b2 c2:Nat) (vs us:List Value),vs.length=n * Enc.sz α→us.length=Enc.sz α→n≤cap→(n=0→cap=0) →
  (0 < n→∃ (b1:Nat) (arr:Array Value) (e:TypeId),base=some ⟨b1,0,none⟩∧b1≠b2∧b1 < w.heap.size∧w.heap[b1]?=some (.cells arr e (0,0))∧cap * Enc.sz α≤arr.size∧∀ (j:Nat) v,vs[j]?=some v→arr[j]?=some v) →
  1≤c2→b2 < w.heap.size→(∃ (arr:Array Value) (e:TypeId),w.heap[b2]?=some (.cells arr e (0,0))∧c2 * Enc.sz α≤arr.size∧∀ (j:Nat) v,us[j]?=some v→arr[j]?=some v) →
  (∀ v∈vs,v.oneCell'=true)→(∀ v∈us,v.oneCell'=true) →
  Calls P f #[.slice base n cap,.int .i64 i,.slice (some ⟨b2,0,none⟩) 1 c2] w fun e w'=>∃ v,e=.returned v∧InsOK w w' base (i * Enc.sz α) (Enc.sz α) n vs us v) :
 PO P f (specO (X:=List α × Int × List α × Unit) fun x=>insF x.1 x.2.1 x.2.2.1):=by
 intro args r hF d mem hdep hB
 unfold specO at hF
 split at hF
 ·rename_i hx
  obtain ⟨y,hy,rfl⟩:=Option.map_eq_some_iff.1 hF
  have hs:=Classical.choose_spec hx
  generalize Classical.choose hx=x at hy hs
  subst hs
  obtain ⟨s,i,v,_⟩:=x
  simp only [insF] at hy
  split at hy
  ·rename_i a
   split at hy
   ·rename_i hc
    obtain ⟨k1,k2,k3⟩:=hc
    cases hy
    have hd:=OArgs.data ((s,i,[a],()):List α × Int × List α × Unit)
    obtain ⟨n,rfl⟩:=Int.eq_ofNat_of_zero_le k1
    have hn:n≤s.length:=by omega
    obtain ⟨c1,c2⟩:=encL_cut s n hn
    have e1:(s.take n ++ a :: s.drop n).length=s.length+1:=by simp;omega
    have e2:encL (s.take n ++ a :: s.drop n)=(encL s).take (n * Enc.sz α) ++ encL [a] ++ (encL s).drop (n * Enc.sz α):=by
     rw [encL_app,zax,c1,c2,List.append_assoc]
     show _ ++ (Enc.enc a ++ _)=_ ++ (encL [a] ++ _)
     rw [zax]
     simp [encL]
    have hr:(Res.res (s.take n ++ a :: s.drop n):AV)=.one (.l .own (s.length+1) ((encL s).take (n * Enc.sz α) ++ encL [a] ++ (encL s).drop (n * Enc.sz α))):=by
     rw [← e1,← e2];rfl
    show CallE P d f _ mem mem (Res.res (s.take ((n:Int)).toNat ++ a :: s.drop ((n:Int)).toNat))
    rw [Int.toNat_natCast,hr]
    exact po_call (callE_ins hE hz (by rw [zcj]) (by rw [zcj];simp) hn (H s.length n hn k3)) hd (.inl rfl) hdep hB
   ·cases hy
  ·cases hy
 ·cases hF

theorem zci (b k:Nat) (h:k≠b):∀ (vs:List Value) (o:Nat) (w:World),(w.setCells b o vs).heap[k]?=w.heap[k]?
 | [],_,_=>rfl
 | v :: r,o,w=>by
  rw [World.setCells,zci b k h r]
  simp only [World.setCell,Array.getElem?_modify,if_neg (Ne.symm h)]
theorem zeq (b:Nat) (e:TypeId):∀ (vs:List Value) (o:Nat) (w:World) (arr:Array Value),w.heap[b]?=some (.cells arr e (0,0))→o+vs.length≤arr.size →
 ∃ arr':Array Value,(w.setCells b o vs).heap[b]?=some (.cells arr' e (0,0))∧arr'.size=arr.size∧∀ j:Nat,arr'[j]?=if o≤j∧j < o+vs.length then vs[j - o]? else arr[j]?
 | [],o,w,arr,h,_=>⟨arr,h,rfl,fun j=>by rw [if_neg (fun hh=>by have:=hh.2;simp at this;omega)]⟩
 | v :: r,o,w,arr,h,hl=>by
  simp only [List.length_cons] at hl
  have h1:(w.setCell ⟨b,o,none⟩ v).heap[b]?=some (.cells (arr.setIfInBounds o v) e (0,0)):=by
   simp only [World.setCell,Array.getElem?_modify,h,if_true,Option.map_some]
   rfl
  obtain ⟨arr',h2,h3,h4⟩:=zeq b e r (o+1) (w.setCell ⟨b,o,none⟩ v) _ h1 (by rw [Array.size_setIfInBounds];omega)
  refine ⟨arr',by rw [World.setCells];exact h2,by rw [h3,Array.size_setIfInBounds],fun j=>?_⟩
  rw [h4 j,Array.getElem?_setIfInBounds]
  simp only [List.length_cons]
  by_cases hj:o=j
  ·subst hj
   rw [if_neg (by omega),if_pos rfl,if_pos (by omega),if_pos (by omega)]
   simp
  ·by_cases hj2:o+1≤j∧j < o+1+r.length
   ·rw [if_pos hj2,if_pos (by omega),show j - o=(j - (o+1))+1 by omega,List.getElem?_cons_succ]
   ·rw [if_neg hj2,if_neg hj,if_neg (by omega)]
theorem zfm (w:World) (b o:Nat) (vs:List Value):Kept w (w.setCells b o vs)∧(w.setCells b o vs).heap.size=w.heap.size:=by
 induction vs generalizing w o with
 | nil=>exact ⟨Kept.refl w,rfl⟩
 | cons v r ih =>
  obtain ⟨h1,h2⟩:=ih (w.setCell ⟨b,o,none⟩ v) (o+1)
  rw [World.setCells]
  have h0:Kept w (w.setCell ⟨b,o,none⟩ v):=⟨⟨rfl,rfl,rfl⟩,fun a ha=>⟨by simpa using ha,by simp⟩⟩
  exact ⟨h0.trans h1,by rw [h2];simp⟩
theorem zkb (w:World) (o:Obj):Kept w (w.drew.alloc o)∧(w.drew.alloc o).heap.size=w.heap.size+1:=by
 refine ⟨⟨⟨rfl,rfl,rfl⟩,fun a ha=>⟨?_,?_⟩⟩,by simp⟩
 ·have:(w.drew.alloc o).heap.size=w.heap.size+1:=by simp
  omega
 ·unfold World.frozen?
  have:(w.drew.alloc o).heap[a.block]?=w.heap[a.block]?:=by
   show (w.heap.push o)[a.block]?=_
   rw [Array.getElem?_push,if_neg (by omega)]
  rw [this]
end Go.Ev


namespace Go.Ev
def codeP:List Nat→Nat
 | []=>0
 | x :: r=>2 ^ x * (2 * codeP r+1)
theorem pow_odd:∀ (x y a b:Nat),2 ^ x * (2 * a+1)=2 ^ y * (2 * b+1)→x=y∧a=b
 | 0,0,a,b,h=>⟨rfl,by rw [Nat.pow_zero,Nat.one_mul,Nat.one_mul] at h;omega⟩
 | 0,y+1,a,b,h=>by
  rw [Nat.pow_succ,Nat.mul_right_comm] at h
  generalize 2 ^ y * (2 * b+1)=m at h
  omega
 | x+1,0,a,b,h=>by
  rw [Nat.pow_succ,Nat.mul_right_comm] at h
  generalize 2 ^ x * (2 * a+1)=m at h
  omega
 | x+1,y+1,a,b,h=>by
  rw [Nat.pow_succ,Nat.pow_succ,Nat.mul_right_comm,Nat.mul_right_comm (2 ^ y)] at h
  have:=pow_odd x y a b (by omega)
  exact ⟨by omega,this.2⟩
theorem codeP_inj:∀ {p q:List Nat},codeP p=codeP q→p=q
 | [],[],_=>rfl
 | [],y :: q,h=>by
  rw [codeP,codeP] at h
  have:=Nat.mul_pos (Nat.pow_pos (n:=y) (show 0 < 2 by omega)) (show 0 < 2 * codeP q+1 by omega)
  omega
 | x :: p,[],h=>by
  rw [codeP,codeP] at h
  have:=Nat.mul_pos (Nat.pow_pos (n:=x) (show 0 < 2 by omega)) (show 0 < 2 * codeP p+1 by omega)
  omega
 | x :: p,y :: q,h=>by
  rw [codeP,codeP] at h
  obtain ⟨h1,h2⟩:=pow_odd _ _ _ _ h
  rw [h1,codeP_inj h2]
def pk (p:List Nat):Nat:=bigK+codeP p
theorem zle {p q:List Nat} (h:pk p=pk q):p=q:=codeP_inj (by unfold pk at h;omega)
theorem pk_deep (p:List Nat):(pk p=deepK)=False:=by
 rw [eq_iff_iff,iff_false]
 unfold pk bigK deepK
 omega
theorem pk_ge (p:List Nat):bigK≤pk p:=by unfold pk;omega
theorem zck {d:Nat} {p q:List Nat} (h:p≠q):((d,pk p):Key)≠(d,pk q):=fun e=>h (zle (Prod.mk.inj e).2)
theorem zkd {p:List Nat} {j:Nat} {q:List Nat}:p≠p ++ j :: q:=fun h=>by
 have:=congrArg List.length h
 simp at this
theorem zkq {p q r:List Nat} {i j:Nat} (h:i≠j):p ++ i :: q≠p ++ j :: r:=fun e=>by
 have:=List.append_cancel_left e
 simp only [List.cons.injEq] at this
 exact h this.1

def szD (n:Nat) (cs:List D):Nat:=if n=0 then 1 else cs.length / n
mutual
def wfD:D→Prop
 | .sc _=>True
 | .sl n cs=>(0 < szD n cs∧cs.length=n * szD n cs)∧wfL cs
def wfL:List D→Prop
 | []=>True
 | c :: cs=>wfD c∧wfL cs
end
def bxC (d:Nat) (p:List Nat):D→C
 | .sc v=>.s v
 | .sl n cs=>.bs (d,pk p) n (szD n cs)
def bxL (d:Nat) (p:List Nat):Nat→List D→List C
 | _,[]=>[]
 | i,c :: cs=>bxC d (p ++ [i]) c :: bxL d p (i+1) cs
mutual
def subD (m:Mem) (d:Nat):List Nat→D→Prop
 | _,.sc _=>True
 | p,.sl _ cs=>m (d,pk p)=some (bxL d p 0 cs)∧subL m d p 0 cs
def subL (m:Mem) (d:Nat):List Nat→Nat→List D→Prop
 | _,_,[]=>True
 | p,i,c :: cs=>subD m d (p ++ [i]) c∧subL m d p (i+1) cs
end
mutual
def thawD (d:Nat):Plc→List Nat→D→List Gho
 | _,_,.sc _=>[]
 | pl,p,.sl n cs=>.thaw pl (pk p) (szD n cs) :: thawL d p 0 cs
def thawL (d:Nat):List Nat→Nat→List D→List Gho
 | _,_,[]=>[]
 | p,i,c :: cs=>thawD d (.mem (d,pk p) i) (p ++ [i]) c ++ thawL d p (i+1) cs
end
mutual
def frzD (d:Nat):Plc→List Nat→D→List Gho
 | _,_,.sc _=>[]
 | pl,p,.sl _ cs=>frzL d p 0 cs ++ [.frz pl]
def frzL (d:Nat):List Nat→Nat→List D→List Gho
 | _,_,[]=>[]
 | p,i,c :: cs=>frzD d (.mem (d,pk p) i) (p ++ [i]) c ++ frzL d p (i+1) cs
end
theorem zdh (d:Nat) (p:List Nat):∀ (i:Nat) (cs:List D),(bxL d p i cs).length=cs.length
 | _,[]=>rfl
 | i,c :: cs=>by rw [bxL,List.length_cons,zdh d p (i+1) cs,List.length_cons]
theorem zjj (d:Nat) (p:List Nat):∀ (cs ds:List D) (i:Nat),bxL d p i (cs ++ ds)=bxL d p i cs ++ bxL d p (i+cs.length) ds
 | [],_,_=>rfl
 | c :: cs,ds,i=>by
  rw [List.cons_append,bxL,bxL,zjj d p cs ds (i+1),List.cons_append,List.length_cons]
  congr 3
  omega
theorem zfx {m:Mem} {d:Nat} {p:List Nat}:∀ {cs ds:List D} {i:Nat},subL m d p i (cs ++ ds) ↔ subL m d p i cs∧subL m d p (i+cs.length) ds
 | [],ds,i=>by simp [subL]
 | c :: cs,ds,i=>by
  rw [List.cons_append,subL,subL,zfx (cs:=cs),List.length_cons,show i+1+cs.length=i+(cs.length+1) by omega,and_assoc]
theorem znm:∀ {cs ds:List D},wfL (cs ++ ds) ↔ wfL cs∧wfL ds
 | [],ds=>by simp [wfL]
 | c :: cs,ds=>by rw [List.cons_append,wfL,wfL,znm (cs:=cs),and_assoc]


mutual
theorem zpu {m m':Mem} {d:Nat}:∀ {c:D} {p:List Nat},(∀ q,m' (d,pk (p ++ q))=m (d,pk (p ++ q)))→subD m d p c→subD m' d p c
 | .sc _,_,_,_=>by rw [subD];trivial
 | .sl n cs,p,h,hs=>by
  rw [subD] at hs ⊢
  exact ⟨by have:=h [];rw [List.append_nil] at this;rw [this];exact hs.1,zff (fun j q _ _=>h (j :: q)) hs.2⟩
theorem zff {m m':Mem} {d:Nat}:∀ {cs:List D} {p:List Nat} {i:Nat},(∀ j q,i≤j→j < i+cs.length→m' (d,pk (p ++ j :: q))=m (d,pk (p ++ j :: q)))→subL m d p i cs→subL m' d p i cs
 | [],_,_,_,_=>by rw [subL];trivial
 | c :: cs,p,i,h,hs=>by
  rw [subL] at hs ⊢
  rw [List.length_cons] at h
  exact ⟨zpu (fun q=>by have:=h i q (Nat.le_refl _) (by omega);rwa [show p ++ i :: q=p ++ [i] ++ q by simp] at this) hs.1,zff (fun j q hj hj2=>h j q (by omega) (by omega)) hs.2⟩
end
theorem zjm {m m':Mem} {d:Nat} {cs:List D} {p:List Nat} {i:Nat} (h:∀ j q,i≤j→m' (d,pk (p ++ j :: q))=m (d,pk (p ++ j :: q))) (hs:subL m d p i cs):subL m' d p i cs:=zff (fun j q hj _=>h j q hj) hs

theorem zht (q1 q2:Key→Bool) (c:C):(c.kill q1).kill q2=c.kill fun k=>q1 k || q2 k:=by
 cases c with
 | ptr k off=>by_cases h1:q1 k=true <;> by_cases h2:q2 k=true <;> simp [C.kill,h1,h2]
 | bs k n sz=>by_cases h1:q1 k=true <;> by_cases h2:q2 k=true <;> simp [C.kill,h1,h2]
 | fn f caps =>
  have:(caps.any fun c=>q1 c.1 || q2 c.1)=(caps.any (fun c=>q1 c.1) || caps.any fun c=>q2 c.1):=by
   induction caps with
   | nil=>rfl
   | cons a r ih=>simp only [List.any_cons,ih];cases q1 a.1 <;> cases q2 a.1 <;> simp
  have e:∀ q:Key→Bool,(C.fn f caps).kill q=if (caps.any fun c=>q c.1)=true then .dead else .fn f caps:=fun q=>rfl
  rw [e q1,e (fun k=>q1 k || q2 k),this]
  cases h1:(caps.any fun c=>q1 c.1) with
  | true=>rfl
  | false=>rw [if_neg (by simp),e q2,Bool.false_or]
 | _=>rfl
theorem zed (q1 q2:Key→Bool) (a:AV):(a.kill q1).kill q2=a.kill fun k=>q1 k || q2 k:=by
 cases a with
 | one c=>simp only [AV.kill,zht]
 | ag cs=>simp only [AV.kill,List.map_map,Function.comp_def,zht]
 | tu vs=>simp only [AV.kill,List.map_map,Function.comp_def,zht]
theorem ofD_kill (q:Key→Bool) (m:Md) (x:D):(C.ofD m x).kill q=C.ofD m x:=by cases x <;> rfl
theorem ofDs_kill (q:Key→Bool) (m:Md) (xs:List D):(xs.map (C.ofD m)).map (C.kill q)=xs.map (C.ofD m):=by
 rw [List.map_map];exact List.map_congr_left fun x _=>ofD_kill q m x
theorem ziy (x:D):(C.ofD .own x).killB=C.ofD .own x:=by cases x <;> rfl
theorem zni {q:Key→Bool} {d:Nat} {p:List Nat} (h:q (d,pk p)=false) (x:D):(bxC d p x).kill q=bxC d p x:=by
 cases x with
 | sc v=>rfl
 | sl n cs=>simp [bxC,C.kill,h]
theorem zfp {q:Key→Bool} {d:Nat} {p:List Nat}:∀ {cs:List D} {i:Nat},(∀ j,i≤j→q (d,pk (p ++ [j]))=false)→(bxL d p i cs).map (C.kill q)=bxL d p i cs
 | [],_,_=>rfl
 | c :: cs,i,h=>by rw [bxL,List.map_cons,zni (h i (Nat.le_refl _)),zfp fun j hj=>h j (by omega)]
mutual
theorem subD_kill {q:Key→Bool} {m m':Mem} {d:Nat}:∀ {c:D} {p:List Nat},(∀ r,q (d,pk (p ++ r))=false)→(∀ r,m' (d,pk (p ++ r))=(m (d,pk (p ++ r))).map (List.map (C.kill q)))→subD m d p c→subD m' d p c
 | .sc _,_,_,_,_=>by rw [subD];trivial
 | .sl n cs,p,hq,h,hs=>by
  rw [subD] at hs ⊢
  refine ⟨?_,zew (fun j r _=>hq (j :: r)) (fun j r _=>h (j :: r)) hs.2⟩
  have:=h []
  rw [List.append_nil] at this
  rw [this,hs.1,Option.map_some,zfp fun j _=>hq [j]]
theorem zew {q:Key→Bool} {m m':Mem} {d:Nat}:∀ {cs:List D} {p:List Nat} {i:Nat},(∀ j r,i≤j→q (d,pk (p ++ j :: r))=false)→(∀ j r,i≤j→m' (d,pk (p ++ j :: r))=(m (d,pk (p ++ j :: r))).map (List.map (C.kill q)))→subL m d p i cs→subL m' d p i cs
 | [],_,_,_,_,_=>by rw [subL];trivial
 | c :: cs,p,i,hq,h,hs=>by
  rw [subL] at hs ⊢
  exact ⟨subD_kill (fun r=>by have:=hq i r (Nat.le_refl _);rwa [show p ++ i :: r=p ++ [i] ++ r by simp] at this) (fun r=>by have:=h i r (Nat.le_refl _);rwa [show p ++ i :: r=p ++ [i] ++ r by simp] at this) hs.1,
   zew (fun j r hj=>hq j r (by omega)) (fun j r hj=>h j r (by omega)) hs.2⟩
end

structure KB (σ:St):Prop where
 env:∀ t,(σ.env t).killB=σ.env t
 mem:∀ k cs,σ.mem k=some cs→∀ c∈cs,c.killB=c
theorem map_id_of {cs:List C} {f:C→C} (h:∀ c∈cs,f c=c):cs.map f=cs:=by
 have:=List.map_congr_left (f:=f) (g:=id) (l:=cs) h
 rw [this,List.map_id]
theorem KB.eq {σ:St} (h:KB σ):σ.killB=σ:=by
 cases σ with
 | mk env mem =>
  unfold St.killB
  congr 1
  ·exact funext h.env
  ·funext k
   have hm:=h.mem k
   show (mem k).map (List.map C.killB)=mem k
   cases hk:mem k with
   | none=>rfl
   | some cs=>rw [Option.map_some,map_id_of (hm cs hk)]
theorem zdm (d:Nat):∀ (l1 l2:List Gho) (σ:St),ghoLB d (l1 ++ l2) σ=(ghoLB d l1 σ).bind (ghoLB d l2)
 | [],_,_=>rfl
 | x :: l1,l2,σ=>by
  rw [List.cons_append,ghoLB,ghoLB]
  cases ghoB d σ x with
  | none=>rfl
  | some σ1=>simp only [Option.bind_some];exact zdm d l1 l2 σ1
theorem KB.put {σ:St} (h:KB σ) {m:Mem} (hm:∀ k cs,m k=some cs→(σ.mem k=some cs)∨∀ c∈cs,c.killB=c):KB { σ with mem:=m } :=
 ⟨h.env,fun k cs hk=>by
  rcases hm k cs hk with h1 | h1
  ·exact h.mem k cs h1
  ·exact h1⟩
theorem zmg {α:Type} {pre rest:List α} {a b:α} {i:Nat} (h:pre.length=i):(pre ++ a :: rest).set i b=pre ++ b :: rest:=by
 subst h
 rw [List.set_append_right _ _ (Nat.le_refl _),Nat.sub_self,List.set_cons_zero]
theorem zmm {α:Type} {pre rest:List α} {a:α} {i:Nat} (h:pre.length=i):(pre ++ a :: rest)[i]?=some a:=by
 subst h
 simp
theorem thaw_one {d i n:Nat} {p:List Nat} {σ:St} {pre rest:List C} {cs:List D} (hK:KB σ) (hi:pre.length=i) (hw:0 < szD n cs∧cs.length=n * szD n cs)
 (hm:σ.mem (d,pk p)=some (pre ++ .l .own n cs :: rest)) (hf:σ.mem (d,pk (p ++ [i]))=none) :
 ∃ σ1,ghoB d σ (.thaw (.mem (d,pk p) i) (pk (p ++ [i])) (szD n cs))=some σ1∧KB σ1∧σ1.env=σ.env∧σ1.mem (d,pk p)=some (pre ++ .bs (d,pk (p ++ [i])) n (szD n cs) :: rest) ∧
  σ1.mem (d,pk (p ++ [i]))=some (cs.map (C.ofD .own))∧∀ k,k≠(d,pk p)→k≠(d,pk (p ++ [i]))→σ1.mem k=σ.mem k:=by
 have hne:((d,pk p):Key)≠(d,pk (p ++ [i])):=zck zkd
 refine ⟨{ σ with mem:=upd (upd σ.mem (d,pk p) (some (pre ++ .bs (d,pk (p ++ [i])) n (szD n cs) :: rest))) (d,pk (p ++ [i])) (some (cs.map (C.ofD .own))) },?_,?_,rfl,?_,?_,?_⟩
 ·simp only [ghoB,Plc.loc,Option.bind_some,Loc.get,hm,zmm hi,Loc.own?,hf]
  rw [if_pos (by simp [hw.1,pk_deep];exact hw.2)]
  rw [hK.eq]
  simp only [Loc.set,hm,zmg hi,Md.elem]
 ·refine hK.put fun k c hk=>?_
  have hk':upd (upd σ.mem (d,pk p) (some (pre ++ .bs (d,pk (p ++ [i])) n (szD n cs) :: rest))) (d,pk (p ++ [i])) (some (cs.map (C.ofD .own))) k=some c:=hk
  unfold upd at hk'
  split at hk'
  ·cases hk'
   refine .inr fun x hx=>?_
   obtain ⟨y,_,rfl⟩:=List.mem_map.1 hx
   exact ziy y
  ·split at hk'
   ·cases hk'
    refine .inr fun x hx=>?_
    rcases List.mem_append.1 hx with hx | hx
    ·exact hK.mem _ _ hm x (List.mem_append.2 (.inl hx))
    ·rcases List.mem_cons.1 hx with rfl | hx
     ·rfl
     ·exact hK.mem _ _ hm x (List.mem_append.2 (.inr (List.mem_cons_of_mem _ hx)))
   ·exact .inl hk'
 ·show upd (upd _ _ _) _ _ _=_
  unfold upd
  rw [if_neg hne,if_pos rfl]
 ·show upd (upd _ _ _) _ _ _=_
  unfold upd
  rw [if_pos rfl]
 ·intro k h1 h2
  show upd (upd _ _ _) _ _ _=_
  unfold upd
  rw [if_neg h2,if_neg h1]
mutual
theorem thawD_ok {d:Nat}:∀ (c:D) (p:List Nat) (i:Nat) (σ:St) (pre rest:List C),KB σ→wfD c→pre.length=i→σ.mem (d,pk p)=some (pre ++ C.ofD .own c :: rest)→(∀ q,σ.mem (d,pk (p ++ i :: q))=none) →
 ∃ σ',ghoLB d (thawD d (.mem (d,pk p) i) (p ++ [i]) c) σ=some σ'∧KB σ'∧σ'.env=σ.env∧σ'.mem (d,pk p)=some (pre ++ bxC d (p ++ [i]) c :: rest)∧subD σ'.mem d (p ++ [i]) c ∧
  ∀ k,k≠(d,pk p)→(∀ q,k≠(d,pk (p ++ i :: q)))→σ'.mem k=σ.mem k
 | .sc v,p,i,σ,pre,rest,hK,_,_,hm,_=>⟨σ,by rw [thawD];rfl,hK,rfl,hm,by rw [subD];trivial,fun _ _ _=>rfl⟩
 | .sl n cs,p,i,σ,pre,rest,hK,hw,hi,hm,hf=>by
  rw [wfD] at hw
  obtain ⟨σ1,h1,hK1,he1,hp1,hc1,ho1⟩:=thaw_one hK hi hw.1 hm (hf [])
  obtain ⟨σ2,h2,hK2,he2,hp2,hs2,ho2⟩:=zng cs (p ++ [i]) 0 σ1 [] hK1 hw.2 rfl hc1 (fun j q _=>by
   rw [ho1 _ (zck (by simp)) (zck (by simp))]
   have:=hf (j :: q)
   simpa using this)
  refine ⟨σ2,by rw [thawD,ghoLB,h1,Option.bind_some,h2],hK2,he2.trans he1,?_,?_,fun k hk1 hk2=>?_⟩
  ·rw [ho2 _ (zck zkd) (fun j q _=>zck (by simp)),hp1]
   rfl
  ·rw [subD]
   exact ⟨by rw [hp2];rfl,hs2⟩
  ·rw [ho2 k (by have:=hk2 [];simpa using this) (fun j q _=>by have:=hk2 (j :: q);simpa using this),ho1 k hk1 (by have:=hk2 [];simpa using this)]
theorem zng {d:Nat}:∀ (cs:List D) (p:List Nat) (i:Nat) (σ:St) (pre:List C),KB σ→wfL cs→pre.length=i→σ.mem (d,pk p)=some (pre ++ cs.map (C.ofD .own))→(∀ j q,i≤j→σ.mem (d,pk (p ++ j :: q))=none) →
 ∃ σ',ghoLB d (thawL d p i cs) σ=some σ'∧KB σ'∧σ'.env=σ.env∧σ'.mem (d,pk p)=some (pre ++ bxL d p i cs)∧subL σ'.mem d p i cs ∧
  ∀ k,k≠(d,pk p)→(∀ j q,i≤j→k≠(d,pk (p ++ j :: q)))→σ'.mem k=σ.mem k
 | [],p,i,σ,pre,hK,_,_,hm,_=>⟨σ,by rw [thawL];rfl,hK,rfl,hm,by rw [subL];trivial,fun _ _ _=>rfl⟩
 | c :: cs,p,i,σ,pre,hK,hw,hi,hm,hf=>by
  rw [wfL] at hw
  obtain ⟨σ1,h1,hK1,he1,hp1,hs1,ho1⟩:=thawD_ok c p i σ pre (cs.map (C.ofD .own)) hK hw.1 hi hm (fun q=>hf i q (Nat.le_refl _))
  obtain ⟨σ2,h2,hK2,he2,hp2,hs2,ho2⟩:=zng cs p (i+1) σ1 (pre ++ [bxC d (p ++ [i]) c]) hK1 hw.2 (by simp [hi]) (by rw [hp1];simp) (fun j q hj=>by
   rw [ho1 _ (zck fun e=>zkd e.symm) (fun r=>zck (zkq (by omega)))]
   exact hf j q (by omega))
  refine ⟨σ2,by rw [thawL,zdm,h1,Option.bind_some,h2],hK2,he2.trans he1,?_,?_,fun k hk1 hk2=>?_⟩
  ·rw [hp2,bxL];simp
  ·rw [subL]
   refine ⟨zpu (fun q=>?_) hs1,hs2⟩
   rw [show p ++ [i] ++ q=p ++ i :: q by simp]
   exact ho2 _ (zck fun e=>zkd e.symm) (fun j r hj=>zck (zkq (by omega)))
  ·rw [ho2 k hk1 (fun j q hj=>hk2 j q (by omega)),ho1 k hk1 (fun q=>hk2 i q (Nat.le_refl _))]
end

theorem zrl (cs:List D):modeOf (cs.map (C.ofD .own))=some .own:=by
 unfold modeOf
 rw [if_pos]
 rw [List.all_eq_true]
 intro x hx
 obtain ⟨y,_,rfl⟩:=List.mem_map.1 hx
 exact ownD_ofD y
theorem frz_one {d i n:Nat} {p:List Nat} {σ:St} {pre rest:List C} {cs:List D} (hi:pre.length=i) (hw:0 < szD n cs∧cs.length=n * szD n cs)
 (hm:σ.mem (d,pk p)=some (pre ++ .bs (d,pk (p ++ [i])) n (szD n cs) :: rest)) (hc:σ.mem (d,pk (p ++ [i]))=some (cs.map (C.ofD .own))) :
 ∃ σ1,ghoB d σ (.frz (.mem (d,pk p) i))=some σ1∧(∀ t,σ1.env t=(σ.env t).kill (· == (d,pk (p ++ [i])))) ∧
  σ1.mem (d,pk p)=some (pre.map (C.kill (· == (d,pk (p ++ [i])))) ++ .l .own n cs :: rest.map (C.kill (· == (d,pk (p ++ [i])))))∧σ1.mem (d,pk (p ++ [i]))=none ∧
  ∀ k,k≠(d,pk p)→k≠(d,pk (p ++ [i]))→σ1.mem k=(σ.mem k).map (List.map (C.kill (· == (d,pk (p ++ [i]))))):=by
 have hne:((d,pk p):Key)≠(d,pk (p ++ [i])):=zck zkd
 generalize hkey:((d,pk (p ++ [i])):Key)=key at *
 have hkd:key.1=d:=by rw [← hkey]
 have hmk:(σ.killK key).mem (d,pk p)=some (pre.map (C.kill (· == key)) ++ .dead :: rest.map (C.kill (· == key))):=by
  show memKill (· == key) σ.mem (d,pk p)=_
  unfold memKill
  rw [if_neg (by simpa using hne),hm]
  simp [C.kill]
 refine ⟨{ σ.killK key with mem:=upd (σ.killK key).mem (d,pk p) (some (pre.map (C.kill (· == key)) ++ .l .own n cs :: rest.map (C.kill (· == key)))) },?_,fun t=>rfl,?_,?_,?_⟩
 ·have hlen:(cs.map (C.ofD .own)).length=n * szD n cs:=by rw [List.length_map];exact hw.2
  simp only [ghoB,Plc.loc,Option.bind_some,Loc.get,hm,zmm hi,hc,List.take_of_length_le (Nat.le_of_eq hlen),zrl,zih]
  rw [if_pos ⟨hkd,hlen,hw.1,by simpa [Loc.notK] using hne⟩]
  simp only [Loc.set,hmk]
  rw [zmg (by simpa using hi)]
 ·show upd _ _ _ _=_
  unfold upd
  rw [if_pos rfl]
 ·show upd _ _ _ _=_
  unfold upd
  rw [if_neg (fun e=>hne e.symm)]
  show memKill (· == key) σ.mem key=_
  unfold memKill
  rw [if_pos (by simp)]
 ·intro k h1 h2
  show upd _ _ _ _=_
  unfold upd
  rw [if_neg h1]
  show memKill (· == key) σ.mem k=_
  unfold memKill
  rw [if_neg (by simpa using h2)]
theorem zbm (q1 q2:Key→Bool) (cs:List C):(cs.map (C.kill q1)).map (C.kill q2)=cs.map (C.kill fun k=>q1 k || q2 k):=by
 rw [List.map_map];exact List.map_congr_left fun x _=>zht q1 q2 x
mutual
theorem frzD_ok {d:Nat}:∀ (c:D) (p:List Nat) (i:Nat) (σ:St) (pre rest:List C),wfD c→pre.length=i→σ.mem (d,pk p)=some (pre ++ bxC d (p ++ [i]) c :: rest)→subD σ.mem d (p ++ [i]) c →
 ∃ (σ':St) (q:Key→Bool),ghoLB d (frzD d (.mem (d,pk p) i) (p ++ [i]) c) σ=some σ'∧(∀ k,q k=true→∃ r,k=(d,pk (p ++ i :: r)))∧(∀ t,σ'.env t=(σ.env t).kill q) ∧
  σ'.mem (d,pk p)=some (pre.map (C.kill q) ++ C.ofD .own c :: rest.map (C.kill q))∧(∀ k,q k=true→σ'.mem k=none) ∧
  ∀ k,k≠(d,pk p)→q k=false→σ'.mem k=(σ.mem k).map (List.map (C.kill q))
 | .sc v,p,i,σ,pre,rest,_,hi,hm,_=>⟨σ,fun _=>false,by rw [frzD];rfl,fun k h=>absurd h (by simp),fun t=>by rw [AV.kill_none],by rw [zaz,zaz];exact hm,fun k h=>absurd h (by simp),fun k _ _=>by
  cases hk:σ.mem k with
  | none=>rfl
  | some cs=>rw [Option.map_some,zaz]⟩
 | .sl n cs,p,i,σ,pre,rest,hw,hi,hm,hs=>by
  rw [wfD] at hw
  rw [subD] at hs
  obtain ⟨σ1,q1,h1,hq1,he1,hp1,hn1,ho1⟩:=zrv cs (p ++ [i]) 0 σ [] hw.2 rfl (by rw [hs.1];rfl) hs.2
  have hq0:q1 (d,pk p)=false:=by
   cases hq:q1 (d,pk p) with
   | false=>rfl
   | true=>obtain ⟨j,r,_,e⟩:=hq1 _ hq;exact absurd (zle (Prod.mk.inj e).2) (by simp)
  have hq2:q1 (d,pk (p ++ [i]))=false:=by
   cases hq:q1 (d,pk (p ++ [i])) with
   | false=>rfl
   | true=>obtain ⟨j,r,_,e⟩:=hq1 _ hq;exact absurd (zle (Prod.mk.inj e).2) (by simp)
  have hm1:σ1.mem (d,pk p)=some (pre.map (C.kill q1) ++ .bs (d,pk (p ++ [i])) n (szD n cs) :: rest.map (C.kill q1)):=by
   rw [ho1 _ (zck zkd) hq0,hm,Option.map_some,List.map_append,List.map_cons,zni hq2]
   rfl
  obtain ⟨σ2,h2,he2,hp2,hn2,ho2⟩:=frz_one (d:=d) (i:=i) (n:=n) (p:=p) (by simpa using hi) hw.1 hm1 (by simpa using hp1)
  refine ⟨σ2,fun k=>q1 k || k == (d,pk (p ++ [i])),by rw [frzD,zdm,h1,Option.bind_some,ghoLB,h2];rfl,fun k hk=>?_,fun t=>?_,?_,fun k hk=>?_,fun k hk1 hk2=>?_⟩
  ·simp only [Bool.or_eq_true,beq_iff_eq] at hk
   rcases hk with hk | hk
   ·obtain ⟨j,r,_,e⟩:=hq1 k hk
    exact ⟨j :: r,by rw [e];simp⟩
   ·exact ⟨[],hk⟩
  ·rw [he2,he1,zed]
  ·rw [hp2,zbm,zbm]
   rfl
  ·simp only [Bool.or_eq_true,beq_iff_eq] at hk
   by_cases hk3:k=(d,pk (p ++ [i]))
   ·rw [hk3];exact hn2
   ·have hk4:=hk.resolve_right hk3
    rw [ho2 k (fun e=>by rw [e] at hk4;rw [hq0] at hk4;cases hk4) hk3,hn1 k hk4];rfl
  ·simp only [Bool.or_eq_false_iff,beq_eq_false_iff_ne] at hk2
   rw [ho2 k hk1 hk2.2,ho1 k hk2.2 hk2.1]
   cases σ.mem k with
   | none=>rfl
   | some c=>simp only [Option.map_some,zbm]
theorem zrv {d:Nat}:∀ (cs:List D) (p:List Nat) (i:Nat) (σ:St) (pre:List C),wfL cs→pre.length=i→σ.mem (d,pk p)=some (pre ++ bxL d p i cs)→subL σ.mem d p i cs →
 ∃ (σ':St) (q:Key→Bool),ghoLB d (frzL d p i cs) σ=some σ'∧(∀ k,q k=true→∃ j r,i≤j∧k=(d,pk (p ++ j :: r)))∧(∀ t,σ'.env t=(σ.env t).kill q) ∧
  σ'.mem (d,pk p)=some (pre.map (C.kill q) ++ cs.map (C.ofD .own))∧(∀ k,q k=true→σ'.mem k=none) ∧
  ∀ k,k≠(d,pk p)→q k=false→σ'.mem k=(σ.mem k).map (List.map (C.kill q))
 | [],p,i,σ,pre,_,hi,hm,_=>⟨σ,fun _=>false,by rw [frzL];rfl,fun k h=>absurd h (by simp),fun t=>by rw [AV.kill_none],by rw [zaz];exact hm,fun k h=>absurd h (by simp),fun k _ _=>by
  cases hk:σ.mem k with
  | none=>rfl
  | some cs=>rw [Option.map_some,zaz]⟩
 | c :: cs,p,i,σ,pre,hw,hi,hm,hs=>by
  rw [wfL] at hw
  rw [subL] at hs
  obtain ⟨σ1,q1,h1,hq1,he1,hp1,hn1,ho1⟩:=frzD_ok c p i σ pre (bxL d p (i+1) cs) hw.1 hi hm hs.1
  have hqt:∀ j r,i+1≤j→q1 (d,pk (p ++ j :: r))=false:=fun j r hj=>by
   cases hq:q1 (d,pk (p ++ j :: r)) with
   | false=>rfl
   | true=>obtain ⟨r',e⟩:=hq1 _ hq;exact absurd (zle (Prod.mk.inj e).2) (zkq (by omega))
  have hq0:q1 (d,pk p)=false:=by
   cases hq:q1 (d,pk p) with
   | false=>rfl
   | true=>obtain ⟨r,e⟩:=hq1 _ hq;exact absurd (zle (Prod.mk.inj e).2) zkd
  obtain ⟨σ2,q2,h2,hq2,he2,hp2,hn2,ho2⟩:=zrv cs p (i+1) σ1 (pre.map (C.kill q1) ++ [C.ofD .own c]) hw.2 (by simp [hi])
   (by rw [hp1,zfp fun j hj=>hqt j [] hj];simp)
   (zew (fun j r hj=>hqt j r hj) (fun j r hj=>ho1 _ (zck fun e=>zkd e.symm) (hqt j r hj)) hs.2)
  refine ⟨σ2,fun k=>q1 k || q2 k,by rw [frzL,zdm,h1,Option.bind_some,h2],fun k hk=>?_,fun t=>?_,?_,fun k hk=>?_,fun k hk1 hk2=>?_⟩
  ·simp only [Bool.or_eq_true] at hk
   rcases hk with hk | hk
   ·obtain ⟨r,e⟩:=hq1 k hk;exact ⟨i,r,Nat.le_refl _,e⟩
   ·obtain ⟨j,r,hj,e⟩:=hq2 k hk;exact ⟨j,r,by omega,e⟩
  ·rw [he2,he1,zed]
  ·rw [hp2,List.map_append,zbm,List.map_cons,List.map_nil,ofD_kill];simp
  ·simp only [Bool.or_eq_true] at hk
   cases hk2:q2 k with
   | true=>exact hn2 k hk2
   | false =>
    have hk1:=hk.resolve_right (by simp [hk2])
    rw [ho2 k (fun e=>by rw [e] at hk1;rw [hq0] at hk1;cases hk1) hk2,hn1 k hk1];rfl
  ·simp only [Bool.or_eq_false_iff] at hk2
   rw [ho2 k hk1 hk2.2,ho1 k hk1 hk2.1]
   cases σ.mem k with
   | none=>rfl
   | some c=>simp only [Option.map_some,zbm]
end
end Go.Ev

