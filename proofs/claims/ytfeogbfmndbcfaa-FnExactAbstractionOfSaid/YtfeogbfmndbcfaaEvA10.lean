import Derived.Test.YtfeogbfmndbcfaaEvA9
import Derived.Test.YtfeogbfmndbcfaaEvA7
import Derived.Test.YtfeogbfmndbcfaaEvA8
set_option linter.unusedSimpArgs false
set_option linter.unusedVariables false
set_option linter.unnecessarySimpa false
noncomputable section
namespace Go.Ev
open Enc (enc)
theorem szD_encL {α:Type} [Enc α] {xs:List α} (h:xs≠[]):szD xs.length (encL xs)=Enc.sz α:=by
 unfold szD
 have:0 < xs.length:=List.length_pos_iff.2 h
 rw [if_neg (by omega),encL_length,Nat.mul_div_cancel_left _ this]
class WfE (α:Type) [Enc α]:Prop where
 wfE:∀ x:α,wfL (enc x)
instance:WfE Int:=⟨fun x=>by rw [enc_int];simp [wfL,wfD]⟩
instance:WfE Bool:=⟨fun x=>by rw [enc_bool];simp [wfL,wfD]⟩
instance:WfE ByteArray:=⟨fun x=>by rw [enc_str];simp [wfL,wfD]⟩
theorem wf_encL {α:Type} [Enc α] [WfE α]:∀ xs:List α,wfL (encL xs)
 | []=>by rw [encL_nil,wfL];trivial
 | x :: xs=>by rw [encL_cons,wfL_app];exact ⟨WfE.wfE x,wf_encL xs⟩
instance {α:Type} [Enc α] [WfE α]:WfE (List α):=⟨fun xs=>by
 rw [enc_list,wfL,wfL,wfD]
 refine ⟨⟨?_,wf_encL xs⟩,trivial⟩
 by_cases h:xs=[]
 ·subst h;simp [szD]
 ·rw [szD_encL h];exact ⟨Enc.pos,by rw [encL_length]⟩⟩
def RowI (mem:Mem) (d:Nat) (r:List Nat) (cs:List D):Prop:=mem (d,pk r)=some (bxL d r 0 cs)∧subL mem d r 0 cs
structure MemU (mem0 mem:Mem) (d:Nat) (r:List Nat):Prop where
 clo:∀ q:Key→Bool,(∀ key:Key,key.1=d→q key=false)→memKill q mem0=mem0→memKill q mem=mem
 far:∀ key,(∀ s,key≠(d,pk (r ++ s)))→mem key=mem0 key
theorem MemU.refl (mem:Mem) (d:Nat) (r:List Nat):MemU mem mem d r:=⟨fun _ _ h=>h,fun _ _=>rfl⟩
theorem MemU.trans {m0 m1 m2:Mem} {d:Nat} {r:List Nat} (h1:MemU m0 m1 d r) (h2:MemU m1 m2 d r):MemU m0 m2 d r :=
 ⟨fun q hq h=>h2.clo q hq (h1.clo q hq h),fun key hk=>(h2.far key hk).trans (h1.far key hk)⟩
theorem MemU.tight {m0 m:Mem} {d D:Nat} {r:List Nat} (h:MemU m0 m d r) (hd:d≤D) (hT:Tight D m0):Tight D m :=
 h.clo _ (fun key hk=>by simp;omega) hT
theorem MemR.up {m0 m:Mem} {d:Nat} {r:List Nat} {i n:Nat} (h:MemR m0 m d r i n):MemU m0 m d r :=
 ⟨h.clo,fun key hk=>h.far key fun j s _ _=>hk (j :: s)⟩
theorem MemU.down {m0 m:Mem} {d:Nat} {p:List Nat} {i:Nat} (h:MemU m0 m d (p ++ [i])):MemR m0 m d p i 1 :=
 ⟨h.clo,fun key hk=>h.far key fun s=>by have:=hk i s (Nat.le_refl _) (by omega);simpa using this⟩
theorem seg_mid {α:Type} {A e B:List α} {off m:Nat} (h:off+m≤e.length):seg (A ++ (e ++ B)) (A.length+off) m=seg e off m:=by
 unfold seg
 rw [if_pos (by simp;omega),if_pos h]
 congr 1
 rw [← List.drop_drop,List.drop_left,List.drop_append_of_le_length (by omega),List.take_append_of_le_length (by simp;omega)]
theorem splice_mid {α:Type} {A B:List α} {x y:α}:splice (A ++ (x :: B)) A.length [y]=A ++ (y :: B):=by
 unfold splice
 rw [List.take_left,List.length_singleton,← List.drop_drop,List.drop_left]
 simp
theorem row_mark {g:Cfg} {fn:Nat} {agg:Bool} {F F':List D} {k k':Int} (hM:MarkOK g fn agg F F' k k') {mem:Mem} {d e:Nat} {r:List Nat} {cs pre post:List D} (hcs:cs=pre ++ (F ++ post)) (hd:d≤e) (hT:Tight e mem) (hR:RowI mem d r cs) :
 ∃ mem',callo g e fn [avC agg (bxL d r pre.length F),.one (.s (.int .i64 k))] mem=some (.one (.s (.int .i64 k')),mem')∧RowI mem' d r (pre ++ (F' ++ post))∧MemU mem mem' d r:=by
 subst hcs
 obtain ⟨h1,h2⟩:=hR
 rw [subL_app,subL_app] at h2
 obtain ⟨s1,s2,s3⟩:=h2
 rw [Nat.zero_add] at s2 s3
 obtain ⟨mem',hc,hr,hs⟩:=hM.2 d e r pre.length mem hd hT s2
 have hlen:F'.length=F.length:=by
  have:=congrArg List.length (hM.1 d r 0)
  rwa [bxL_length,bxL_length] at this
 refine ⟨mem',hc,⟨?_,?_⟩,hr.up⟩
 ·rw [hr.far _ fun j s _ _=>key_ne app_ne,h1,bxL_app,bxL_app,bxL_app,bxL_app,hM.1,hlen]
 ·rw [subL_app,subL_app,Nat.zero_add,hlen]
  exact ⟨subL_congrN (fun j q _ hj=>hr.far _ fun j' s hj1 hj2=>key_ne (fork_ne (by omega))) s1,hs,subL_congrN (fun j q hj _=>hr.far _ fun j' s hj1 hj2=>key_ne (fork_ne (by omega))) s3⟩
theorem row_store {mem:Mem} {d:Nat} {r:List Nat} {cs pre post:List D} {v v':Value} (hcs:cs=pre ++ (.sc v :: post)) (hR:RowI mem d r cs) :
 splice (bxL d r 0 cs) pre.length [.s v']=bxL d r 0 (pre ++ (.sc v' :: post))∧RowI (upd mem (d,pk r) (some (bxL d r 0 (pre ++ (.sc v' :: post))))) d r (pre ++ (.sc v' :: post))∧MemU mem (upd mem (d,pk r) (some (bxL d r 0 (pre ++ (.sc v' :: post))))) d r:=by
 subst hcs
 obtain ⟨h1,h2⟩:=hR
 refine ⟨?_,⟨by rw [upd_get,if_pos rfl],?_⟩,⟨fun q hq h=>?_,fun key hk=>?_⟩⟩
 ·rw [bxL_app,bxL_app,bxL,bxL]
  have:=@splice_mid C (bxL d r 0 pre) (bxL d r (0+pre.length+1) post) (bxC d (r ++ [0+pre.length]) (.sc v)) (.s v')
  rw [bxL_length] at this
  exact this
 ·refine subL_congr (m:=mem) (fun j q _=>by rw [upd_get,if_neg (key_ne fun e=>app_ne e.symm)]) ?_
  rw [subL_app,subL,subD] at h2 ⊢
  exact h2
 ·funext key
  unfold memKill
  by_cases hkey:key=(d,pk r)
  ·subst hkey
   rw [upd_get,if_pos rfl,hq _ rfl]
   simp only [Bool.false_eq_true,if_false,Option.map_some]
   rw [bxL_kill fun j _=>hq _ rfl]
  ·have:=congrFun h key
   unfold memKill at this
   rw [upd_get,if_neg hkey]
   exact this
 ·rw [upd_get,if_neg (by have:=hk [];simpa using this)]

def mkRow {α:Type} (F:α→Int→α × Int):List α→Int→List α × Int
 | [],k=>([],k)
 | x :: xs,k=>((F x k).1 :: (mkRow F xs (F x k).2).1,(mkRow F xs (F x k).2).2)
theorem mkRow_snoc {α:Type} (F:α→Int→α × Int):∀ (xs:List α) (x:α) (k:Int),mkRow F (xs ++ [x]) k=((mkRow F xs k).1 ++ [(F x (mkRow F xs k).2).1],(F x (mkRow F xs k).2).2)
 | [],_,_=>rfl
 | y :: xs,x,k=>by rw [List.cons_append,mkRow,mkRow_snoc F xs x,mkRow];rfl
theorem mkRow_len {α:Type} (F:α→Int→α × Int):∀ (xs:List α) (k:Int),(mkRow F xs k).1.length=xs.length
 | [],_=>rfl
 | x :: xs,k=>by rw [mkRow,List.length_cons,mkRow_len F xs,List.length_cons]
def FnEndM (P:Program) (d:Nat) (l:List ResultVar) (gl:List Gho) (R:AV→Mem→Prop) (o:Option Out):Prop:=∃ r m,finK P d l gl o=some (r,m)∧R r m
theorem start_m {g:Cfg} {P:Program} {f:Nat} {args:List AV} {mem:Mem} {d:Nat} {fn:Func} {R:AV→Mem→Prop} (c:Code) (l:List ResultVar) {tk:List Nat} {kp:List (Nat × Kp)} {cs:List (Nat × (List AV→Option AV))} {gl:List (Nat × List Gho)} (G:Has P g f fn tk kp cs gl) (h1:P.funcs[f]?=some fn) (h2:fn.body=some c)
 (h4:args.length≤fn.ntmps) (h5:fn.results.toList=l) (h:Goal (FnEndM P d l ((lookN atEnd gl).getD []) R) (evk g (d+1) f c [] { env:=fun t=>(args[t]?).getD .dead,mem })):∃ r m,callo g d f args mem=some (r,m)∧R r m:=by
 rw [evo_start l G.no G.P h1 h2 G.ok h4 h5,G.gh]
 exact h
theorem goal_callM {g:Cfg} {d f:Nat} {T:Option Out→Prop} {ops:Array Oper} {dst:Option Nat} {l:List Oper} {K:List It} {env:Nat→AV} {k:Nat} {args:List AV} {mem mem':Mem} (args':List AV) (r:AV) (ha:args=args') (h:callo g d k args' mem=some (r,mem'))
 (h2:Goal T (opsK g d f ops l K { env:=putD env dst r,mem:=mem' })):Goal T (retK g d f ops dst l K env (callo g d k args mem)):=by
 subst ha
 rw [h]
 exact h2
def rowKp:Kp:={ hd:=[0,1,5],bx:=[],ex:=[1],rt:=[] }
def RowNext (b:C) (k:Int) (i:Nat) (Q:Mem→Prop) (o:Option Out):Prop :=
 ∃ σ,o=some (.norm σ)∧σ.env 0=.one b∧σ.env 1=.one (.s (.int .i64 k))∧σ.env 5=.one (.s (.int .i64 (i:Int)))∧Q σ.mem
def RowLast (k:Int) (Q:Mem→Prop) (o:Option Out):Prop:=∃ σ,o=some (.exit 0 σ)∧σ.env 1=.one (.s (.int .i64 k))∧Q σ.mem
def rowStep (n:Nat):Nat→Option (Nat ⊕ Unit):=fun i=>if i < n then some (.inl (i+1)) else some (.inr ())
theorem rowStep_iter (n:Nat):∀ (m i:Nat),i+m=n→iter (rowStep n) i=some ()
 | 0,i,h=>iter_inr (by unfold rowStep;rw [if_neg (by omega)])
 | m+1,i,h=>by
  rw [iter_inl (s':=i+1) (by unfold rowStep;rw [if_pos (by omega)])]
  exact rowStep_iter n m (i+1) (by omega)
theorem goal_rows {α:Type} [Enc α] {g:Cfg} {e f:Nat} {T:Option Out→Prop} {c:Code} {K:List It} {σ:St} (F:α→Int→α × Int) (xs:List α) (k:Int) (d:Nat) (r:List Nat) (mem0:Mem)
 (hk:lookK (f,rid c) g.keep=some rowKp) (h0:σ.env 0=.one (.bs (d,pk r) xs.length (szD xs.length (encL xs)))) (h1:σ.env 1=.one (.s (.int .i64 k))) (h5:σ.env 5=.one (.s (.int .i64 0)))
 (hR:RowI σ.mem d r (encL xs)) (hm:MemU mem0 σ.mem d r) (hl:xs.length≤9223372036854775806)
 (round:∀ (i:Nat) (A B:List D) (x:α) (k':Int) (σ':St),x∈xs→i < xs.length→i≤9223372036854775806→A.length=i * Enc.sz α→σ'.env 0=.one (.bs (d,pk r) xs.length (Enc.sz α))→σ'.env 1=.one (.s (.int .i64 k'))→σ'.env 5=.one (.s (.int .i64 (i:Int))) →
  RowI σ'.mem d r (A ++ (enc x ++ B))→MemU mem0 σ'.mem d r →
  Goal (RowNext (.bs (d,pk r) xs.length (Enc.sz α)) (F x k').2 (i+1) fun m=>RowI m d r (A ++ (enc (F x k').1 ++ B))∧MemU mem0 m d r) (evk g e f c [] σ'))
 (last:∀ (z:Nat) (k':Int) (σ':St),σ'.env 0=.one (.bs (d,pk r) xs.length z)→σ'.env 1=.one (.s (.int .i64 k'))→σ'.env 5=.one (.s (.int .i64 (xs.length:Int)))→Goal (RowLast k' fun m=>m=σ'.mem) (evk g e f c [] σ'))
 (after:∀ σ',σ'.env 1=.one (.s (.int .i64 (mkRow F xs k).2))→RowI σ'.mem d r (encL (mkRow F xs k).1)→MemU mem0 σ'.mem d r→Goal T (runK g e f K (.exit 0 σ'))):Goal T (evk g e f (.loop c) K σ):=by
 refine loopP (step:=rowStep xs.length) (s0:=0) (r:=()) rowKp (fun i σ'=>i≤xs.length∧σ'.env 0=.one (.bs (d,pk r) xs.length (szD xs.length (encL xs)))∧σ'.env 1=.one (.s (.int .i64 (mkRow F (xs.take i) k).2))∧σ'.env 5=.one (.s (.int .i64 (i:Int))) ∧
  RowI σ'.mem d r (encL ((mkRow F (xs.take i) k).1 ++ xs.drop i))∧MemU mem0 σ'.mem d r)
  (fun _ out=>∃ σ',out=.exit 0 σ'∧σ'.env 1=.one (.s (.int .i64 (mkRow F xs k).2))∧RowI σ'.mem d r (encL (mkRow F xs k).1)∧MemU mem0 σ'.mem d r) (rowStep_iter xs.length xs.length 0 (by omega)) hk ?_ ?_ ?_
 ·exact ⟨by omega,by simp [zad,rowKp,h0],by simp [zad,rowKp,h1,mkRow],by simp [zad,rowKp,h5],by simpa [rowKp,mkRow] using hR,by simpa [rowKp] using hm⟩
 ·intro i σ' a hI hs
  obtain ⟨hi,e0,e1,e5,eR,eM⟩:=hI
  unfold rowStep at hs
  by_cases hlt:i < xs.length
  ·rw [if_pos hlt] at hs
   cases hs
   have hne:xs≠[]:=by rintro rfl;simp at hlt
   rw [szD_encL hne] at e0
   have hrow:encL ((mkRow F (xs.take i) k).1 ++ xs.drop i)=encL (mkRow F (xs.take i) k).1 ++ (enc xs[i] ++ encL (xs.drop (i+1))):=by
    rw [encL_append,List.drop_eq_getElem_cons hlt,encL_cons]
   rw [hrow] at eR
   have hA:(encL (mkRow F (xs.take i) k).1).length=i * Enc.sz α:=by rw [encL_length,mkRow_len,List.length_take,Nat.min_eq_left (by omega)]
   have hr:=round i _ _ xs[i] _ σ' (List.getElem_mem hlt) hlt (by omega) hA e0 e1 e5 eR eM
   have ht:xs.take (i+1)=xs.take i ++ [xs[i]]:=by simp
   obtain ⟨σ2,ho,f0,f1,f5,fR,fM⟩:=hr
   rw [ho]
   refine ⟨by omega,by simp [zad,rowKp,f0,szD_encL hne],?_,by simp [zad,rowKp,f5],?_,by simpa [rowKp] using fM⟩
   ·rw [ht,mkRow_snoc];simp [zad,rowKp,f1]
   ·rw [ht,mkRow_snoc]
    simpa [rowKp] using fR
  ·rw [if_neg hlt] at hs
   cases hs
   have hin:i=xs.length:=by omega
   subst hin
   obtain ⟨σ2,ho,f1,fm⟩:=last _ _ σ' e0 e1 e5
   rw [ho]
   rw [List.take_of_length_le (Nat.le_refl _)] at f1
   rw [List.take_of_length_le (Nat.le_refl _),List.drop_of_length_le (Nat.le_refl _),List.append_nil] at eR
   exact ⟨_,rfl,by simp [zad,rowKp,f1],by simpa [rowKp,fm] using eR,by simpa [rowKp,fm] using eM⟩
 ·rintro out ⟨σ',rfl,g1,gR,gM⟩
  exact after σ' g1 gR gM

theorem shape_row {α:Type} [Enc α] {xs ys:List α} (h:ys.length=xs.length) (d:Nat) (p:List Nat) (i:Nat):bxL d p i (enc ys)=bxL d p i (enc xs):=by
 have:szD xs.length (encL ys)=szD xs.length (encL xs):=by unfold szD;rw [encL_length,encL_length,h]
 rw [enc_list,enc_list,bxL,bxL,h]
 simp only [bxC,this,bxL]
def MkOK {α:Type} [Enc α] [Sm α] (g:Cfg) (fn:Nat) (agg:Bool) (F:α→Int→α × Int):Prop:=∀ x k,Sm.lg x→MarkOK g fn agg (enc x) (enc (F x k).1) k (F x k).2
theorem mark_row_ok {α:Type} [Enc α] [Sm α] {g:Cfg} {fn:Nat} {F:α→Int→α × Int}
 (h:∀ (xs:List α) k d e r mem,Sm.lg xs→d≤e→Tight e mem→RowI mem d r (encL xs)→∃ R m,callo g e fn [.one (.bs (d,pk r) xs.length (szD xs.length (encL xs))),.one (.s (.int .i64 k))] mem=some (R,m) ∧
  R=.one (.s (.int .i64 (mkRow F xs k).2))∧MemU mem m d r∧RowI m d r (encL (mkRow F xs k).1)):MkOK g fn false (mkRow F):=by
 intro xs k hx
 refine ⟨fun d p i=>shape_row (mkRow_len F xs k) d p i,fun d e p i mem hd hT hs=>?_⟩
 rw [enc_list,subL,subD] at hs
 obtain ⟨R,m,hc,rfl,hM,hR⟩:=h xs k d e (p ++ [i]) mem hx hd hT hs.1
 refine ⟨m,hc,?_,?_⟩
 ·rw [enc_list];exact hM.down
 ·rw [enc_list,subL,subD];exact ⟨hR,by rw [subL];trivial⟩
theorem seg_bx {d:Nat} {r:List Nat} {row pre post:List D} {c:D} {j:Nat} (h:row=pre ++ (c :: post)) (hj:pre.length=j):seg (bxL d r 0 row) j 1=some [bxC d (r ++ [pre.length]) c]:=by
 subst h hj
 have:=@seg_mid C (bxL d r 0 pre) [bxC d (r ++ [pre.length]) c] (bxL d r (0+pre.length+1) post) 0 1 (by simp)
 rw [bxL_length] at this
 rw [bxL_app,bxL,Nat.zero_add] at *
 exact this.trans rfl
theorem MemR.wide {m0 m:Mem} {d:Nat} {p:List Nat} {i n i' n':Nat} (h:MemR m0 m d p i' n') (h1:i≤i') (h2:i' + n'≤i+n):MemR m0 m d p i n :=
 ⟨h.clo,fun key hk=>h.far key fun j r a b=>hk j r (by omega) (by omega)⟩
theorem MemR.trans {m0 m1 m2:Mem} {d:Nat} {p:List Nat} {i n:Nat} (h1:MemR m0 m1 d p i n) (h2:MemR m1 m2 d p i n):MemR m0 m2 d p i n :=
 ⟨fun q hq h=>h2.clo q hq (h1.clo q hq h),fun key hk=>(h2.far key hk).trans (h1.far key hk)⟩
theorem MemR.refl (m:Mem) (d:Nat) (p:List Nat) (i n:Nat):MemR m m d p i n:=⟨fun _ _ h=>h,fun _ _=>rfl⟩
theorem MemR.tight {m0 m:Mem} {d D:Nat} {p:List Nat} {i n:Nat} (h:MemR m0 m d p i n) (hd:d≤D) (hT:Tight D m0):Tight D m :=
 h.clo _ (fun key hk=>by simp;omega) hT
theorem struct_mark {g:Cfg} {fn:Nat} {agg:Bool} {F F':List D} {k k':Int} (hM:MarkOK g fn agg F F' k k') {mem:Mem} {d e:Nat} {p:List Nat} {i:Nat} {cs pre post:List D} (hcs:cs=pre ++ (F ++ post)) (hd:d≤e) (hT:Tight e mem) (hR:subL mem d p i cs) :
 ∃ mem',callo g e fn [avC agg (bxL d p (i+pre.length) F),.one (.s (.int .i64 k))] mem=some (.one (.s (.int .i64 k')),mem')∧subL mem' d p i (pre ++ (F' ++ post))∧MemR mem mem' d p i cs.length:=by
 subst hcs
 rw [subL_app,subL_app] at hR
 obtain ⟨s1,s2,s3⟩:=hR
 obtain ⟨mem',hc,hr,hs⟩:=hM.2 d e p (i+pre.length) mem hd hT s2
 have hlen:F'.length=F.length:=by
  have:=congrArg List.length (hM.1 d p 0)
  rwa [bxL_length,bxL_length] at this
 refine ⟨mem',hc,?_,hr.wide (by omega) (by simp only [List.length_append];omega)⟩
 rw [subL_app,subL_app,hlen]
 exact ⟨subL_congrN (fun j q _ hj=>hr.far _ fun j' s hj1 hj2=>key_ne (fork_ne (by omega))) s1,hs,subL_congrN (fun j q hj _=>hr.far _ fun j' s hj1 hj2=>key_ne (fork_ne (by omega))) s3⟩
theorem memKill_comp (p q:Key→Bool) (m:Mem):memKill p (memKill q m)=memKill (fun k=>q k || p k) m:=by
 funext k
 unfold memKill
 by_cases h1:p k=true
 ·rw [if_pos h1,if_pos (by simp [h1])]
 ·by_cases h2:q k=true
  ·rw [if_neg h1,if_pos h2,if_pos (by simp [h2])];rfl
  ·rw [if_neg h1,if_neg h2,if_neg (by simp [h1,h2])]
   cases m k with
   | none=>rfl
   | some cs=>simp only [Option.map_some,mapmap_kill]
theorem memKill_sub {p q:Key→Bool} (hpq:∀ k,q k=true→p k=true) {m:Mem} (h:memKill p m=m):memKill q m=m:=by
 have h2:(fun k=>p k || q k)=p:=by
  funext k
  cases hq:q k with
  | false=>simp
  | true=>rw [hpq k hq];rfl
 rw [← h,memKill_comp,h2]
theorem byval_end {mem m:Mem} {d e b:Nat} {p:List Nat} {i n:Nat} {cs cs':List D} {i0:Nat} (hd:d≤e) (hT:Tight e mem) (hr:MemR (upd mem (e+1,b) (some (bxL d p i0 cs))) m d p i n) (hs:subL m d p i cs') :
 MemR mem (memKill (fun k=>decide (e < k.1)) m) d p i n∧subL (memKill (fun k=>decide (e < k.1)) m) d p i cs':=by
 have hlow:∀ key:Key,key.1=d→decide (e < key.1)=false:=fun key hk=>by simp;omega
 refine ⟨⟨fun q hq h=>?_,fun key hk=>?_⟩,subL_kill (q:=fun k=>decide (e < k.1)) (fun j r _=>hlow _ rfl) (fun j r _=>by
  unfold memKill
  rw [if_neg (by simp;omega)]) hs⟩
 ·let q':Key→Bool:=fun k=>q k && !(k == (e+1,b))
  have hq':memKill q' m=m:=by
   refine hr.clo q' (fun key hk=>by simp [q',hq key hk]) ?_
   have h0:memKill q' mem=mem:=memKill_sub (fun k hk=>by simp only [q',Bool.and_eq_true] at hk;exact hk.1) h
   funext k
   unfold memKill
   by_cases hk:k=(e+1,b)
   ·subst hk
    rw [if_neg (by simp [q']),upd_get,if_pos rfl,Option.map_some,bxL_kill fun j _=>by simp only [q'];rw [hq (d,pk (p ++ [j])) rfl];rfl]
   ·have:=congrFun h0 k
    unfold memKill at this
    rw [upd_get,if_neg hk]
    exact this
  rw [memKill_comp]
  conv=>rhs;rw [← hq',memKill_comp]
  congr 1
  funext k
  by_cases hk:k=(e+1,b)
  ·subst hk;simp
  ·have:q' k=q k:=by simp [q',hk]
   rw [this,Bool.or_comm]
 ·by_cases hkb:key=(e+1,b)
  ·subst hkb
   unfold memKill
   rw [if_pos (by simp)]
   exact (hT.none (by simp)).symm
  ·have h1:m key=mem key:=by
    rw [hr.far key hk,upd_get,if_neg hkb]
   have h2:=congrFun hT key
   unfold memKill at h2 ⊢
   rw [h1]
   exact h2
def markO {α:Type} [Sm α] (F:α→Int→α × Int) (x:α) (k:Int):Option (α × Int):=by
 classical exact if Sm.lg x then some (F x k) else none
theorem markO_eq {α:Type} [Sm α] {F:α→Int→α × Int} {x:α} {k:Int} {r:α × Int} (h:markO F x k=some r):Sm.lg x∧F x k=r:=by
 unfold markO at h
 split at h
 ·rename_i hl;exact ⟨hl,Option.some.inj h⟩
 ·cases h
theorem markO_some {α:Type} [Sm α] {F:α→Int→α × Int} {x:α} {k:Int} (h:Sm.lg x):markO F x k=some (F x k):=by
 unfold markO
 rw [if_pos h]
theorem key_low {key:Key} (h:bigK≤key.2) (a b:Nat) (hb:b < bigK):(key=(a,b))=False:=by
 simp only [eq_iff_iff,iff_false]
 rintro rfl
 simp only at h
 omega
end Go.Ev


namespace Go.Ev
def totC {α:Type} (cnt:α→Nat) (xs:List α):Nat:=(xs.map cnt).sum
theorem totC_cons {α:Type} (cnt:α→Nat) (x:α) (xs:List α):totC cnt (x :: xs)=cnt x+totC cnt xs:=by simp [totC]
theorem totC_le {α:Type} (cnt:α→Nat) (N:Nat):∀ xs:List α,(∀ x∈xs,cnt x≤N)→totC cnt xs≤xs.length * N
 | [],_=>by simp [totC]
 | x :: xs,h=>by
  have h1:=h x (List.mem_cons_self ..)
  have h2:=totC_le cnt N xs fun y hy=>h y (List.mem_cons_of_mem _ hy)
  rw [totC_cons,List.length_cons,Nat.add_mul]
  omega
def maxMark:Int:=4611686018427387904
theorem mkRow_snd {α:Type} {E:α→Int→α × Int} {cnt:α→Nat} (hE:∀ x k,0≤k→k+cnt x≤maxMark→(E x k).2=k+cnt x):∀ (xs:List α) (k:Int),0≤k→k+totC cnt xs≤maxMark→(mkRow E xs k).2=k+totC cnt xs
 | [],k,_,_=>by simp [mkRow,totC]
 | x :: xs,k,hk,hb=>by
  rw [totC_cons] at hb
  have h1:=hE x k hk (by omega)
  rw [mkRow]
  simp only
  rw [mkRow_snd hE xs (E x k).2 (by omega) (by omega),totC_cons,h1]
  omega
theorem held_row {α:Type} {E:α→Int→α × Int} {cnt:α→Nat} {xs ys:List α} {step:Int × Int→Option ((Int × Int) ⊕ (Int ⊕ Int))} (hE:∀ x k,0≤k→k+cnt x≤maxMark→(E x k).2=k+cnt x)
 (h1:∀ (i:Nat) x k,x∈xs→i < ys.length→ys[i]?=some (E x k).1→0≤k→k+cnt x≤maxMark→step (k,(i:Int))=some (.inl ((E x k).2,addI i 1)))
 (h2:∀ k,step (k,ys.length)=some (.inr (.inr k))) {k:Int} (hys:ys=(mkRow E xs k).1) (hl:xs.length≤9223372036854775806) (hk:0≤k) (hb:k+totC cnt xs≤maxMark) :
 iter step (k,0)=some (.inr (mkRow E xs k).2):=by
 have key:∀ (s:List α) (i:Nat) (k':Int),xs.drop i=s→ys.drop i=(mkRow E s k').1→i+s.length=ys.length→0≤k'→k' + totC cnt s≤maxMark→iter step (k',(i:Int))=some (.inr (mkRow E s k').2):=by
  intro s
  induction s with
  | nil =>
   intro i k' _ _ hi _ _
   simp only [List.length_nil,Nat.add_zero] at hi
   subst hi
   exact iter_inr (h2 k')
  | cons x s ih =>
   intro i k' hx0 hd hi hk' hb'
   have hmx:x∈xs:=List.mem_of_mem_drop (i:=i) (by rw [hx0];exact List.mem_cons_self ..)
   have hx1:xs.drop (i+1)=s:=by
    have:=congrArg List.tail hx0
    simpa using this
   rw [mkRow] at hd
   rw [totC_cons] at hb'
   simp only [List.length_cons] at hi
   have hx:ys[i]?=some (E x k').1:=by
    have:=congrArg (fun l=>l[0]?) hd
    simpa using this
   have hd2:ys.drop (i+1)=(mkRow E s (E x k').2).1:=by
    have:=congrArg List.tail hd
    simpa using this
   have hs:=hE x k' hk' (by omega)
   have hyl:ys.length≤9223372036854775806:=by rw [hys,mkRow_len];exact hl
   rw [iter_inl (h1 i x k' hmx (by omega) hx hk' (by omega)),addI_eq (by omega) (by omega)]
   have:=ih (i+1) (E x k').2 hx1 hd2 (by omega) (by omega) (by omega)
   rw [mkRow]
   exact this
 exact key xs 0 k rfl (by simpa using hys) (by rw [hys,mkRow_len];simp) hk hb
end Go.Ev


namespace Go.Ev
open Wf (wf)
open Sm (sm lg)
instance:Wf TNode:=⟨fun x=>wf x.vars∧wf x.reach∧wf x.shared∧wf x.many⟩
instance:Sm TNode:=⟨fun x=>sm x.vars∧sm x.reach,fun x=>lg x.vars∧lg x.reach,fun x h=>⟨Sm.le _ h.1,Sm.le _ h.2⟩⟩
instance:DecidableEq TNode:=fun a b=>by
 cases a;cases b
 simp only [TNode.mk.injEq]
 infer_instance
instance:Wf TStructure:=⟨fun x=>wf x.nodes∧wf x.next⟩
instance:Sm TStructure:=⟨fun x=>sm x.nodes∧sm x.next,fun x=>lg x.nodes∧lg x.next,fun x h=>⟨Sm.le _ h.1,Sm.le _ h.2⟩⟩
instance:DecidableEq TStructure:=fun a b=>by
 cases a;cases b
 simp only [TStructure.mk.injEq]
 infer_instance
instance:Wf THeap:=⟨fun x=>wf x.vars∧wf x.next⟩
instance:Sm THeap:=⟨fun x=>sm x.vars∧sm x.next,fun x=>lg x.vars∧lg x.next,fun x h=>⟨Sm.le _ h.1,Sm.le _ h.2⟩⟩
instance:DecidableEq THeap:=fun a b=>by
 cases a;cases b
 simp only [THeap.mk.injEq]
 infer_instance
end Go.Ev


namespace Go.Ev
open Enc (enc)
instance:WfE TNode:=⟨fun x=>by
 show wfL (enc x.vars ++ (enc x.reach ++ (enc x.shared ++ (enc x.many ++ ([])))))
 simp only [wfL_app]
 exact ⟨WfE.wfE x.vars,WfE.wfE x.reach,WfE.wfE x.shared,WfE.wfE x.many,trivial⟩⟩
instance:WfE TStructure:=⟨fun x=>by
 show wfL (enc x.nodes ++ (enc x.next ++ ([])))
 simp only [wfL_app]
 exact ⟨WfE.wfE x.nodes,WfE.wfE x.next,trivial⟩⟩
def mkE_markIntS:Int→Int→Int × Int:=fun x k'=>(k',addI k' 1)
def zac:List Int→Int→List Int × Int:=mkRow mkE_markIntS
def cntE_markIntS:Int→Nat:=fun _=>1
def cntF_markIntS:List Int→Nat:=totC cntE_markIntS
def mkE_markNodeS (x:TNode) (k':Int):TNode × Int:=(⟨(zac x.vars k').1,(zac x.reach ((zac x.vars k').2)).1,(zac x.reach ((zac x.vars k').2)).2,addI ((zac x.reach ((zac x.vars k').2)).2) 1⟩,addI (addI ((zac x.reach ((zac x.vars k').2)).2) 1) 1)
def zai:List TNode→Int→List TNode × Int:=mkRow mkE_markNodeS
def cntE_markNodeS:TNode→Nat:=fun x=>cntF_markIntS x.vars+cntF_markIntS x.reach+1+1
def cntF_markNodeS:List TNode→Nat:=totC cntE_markNodeS
def mkF_markStructure (x:TStructure) (k:Int):TStructure × Int:=(⟨(zai x.nodes k).1,(zac x.next ((zai x.nodes k).2)).1⟩,(zac x.next ((zai x.nodes k).2)).2)
def cntF_markStructure (x:TStructure):Nat:=cntF_markNodeS x.nodes+cntF_markIntS x.next
instance:WfE THeap:=⟨fun x=>by
 show wfL (enc x.vars ++ (enc x.next ++ ([])))
 simp only [wfL_app]
 exact ⟨WfE.wfE x.vars,WfE.wfE x.next,trivial⟩⟩
def mkF_markHeap (x:THeap) (k:Int):THeap × Int:=(⟨(zac x.vars k).1,(zac x.next ((zac x.vars k).2)).1⟩,(zac x.next ((zac x.vars k).2)).2)
def cntF_markHeap (x:THeap):Nat:=cntF_markIntS x.vars+cntF_markIntS x.next
end Go.Ev


namespace Go.Ev
def slices_Concat_int (s:(List (List Int))):Option (List Int):=lib_Concat 8 s

def slices_Clone_int (s:(List Int)):Option (List Int):=lib_Clone 8 s

def laws_szIntS (a_:(List Int)) (left:Int):Option (Int) :=
 cond (ltI (subI left (a_.length:Int)) 0)
 (some (-1))
 (some (subI left (a_.length:Int)))

def laws_szNode (a_:TNode) (left:Int):Option (Int) :=
 (laws_szIntS a_.vars left).bind fun y_1 =>
 cond (ltI y_1 0)
 (some (-1))
 ((laws_szIntS a_.reach y_1).bind fun y_5 =>
 cond (ltI y_5 0)
 (some (-1))
 (some y_5))

def laws_szNodeS (a_:(List TNode)) (left:Int):Option (Int) :=
 cond (ltI (subI left (a_.length:Int)) 0)
 (some (-1))
 ((iter (ρ:=(Int) ⊕ (Int)) (fun s_2:Int × Int =>
 cond (ltI s_2.2 (a_.length:Int))
 ((at? a_ s_2.2).bind fun e_10 =>
 (laws_szNode e_10 s_2.1).bind fun y_15 =>
 cond (ltI y_15 0)
 (some (.inr (.inl (-1))))
 (some (.inl (y_15,addI s_2.2 1))))
 (some (.inr (.inr s_2.1)))) (subI left (a_.length:Int),0)).bind fun r_19 =>
 Sum.elim (fun r_19 =>
 some r_19)
 (fun r_19 =>
 some r_19) r_19)

def laws_szStructure (a_:TStructure) (left:Int):Option (Int) :=
 (laws_szNodeS a_.nodes left).bind fun y_1 =>
 cond (ltI y_1 0)
 (some (-1))
 ((laws_szIntS a_.next y_1).bind fun y_5 =>
 cond (ltI y_5 0)
 (some (-1))
 (some y_5))

def laws_toIntS (a_:(List Int)):Option ((List Int)) :=
 (roomI (a_.length:Int) 8).bind fun _ =>
 (iter (ρ:=(List Int)) (fun s_5:Int × (List Int) =>
 cond (ltI s_5.1 (a_.length:Int))
 ((at? a_ s_5.1).bind fun e_13 =>
 (at? s_5.2 s_5.1).bind fun e_18 =>
 some (.inl (addI s_5.1 1,s_5.2.set s_5.1.toNat e_13)))
 (some (.inr s_5.2))) (0,List.replicate (a_.length:Int).toNat (0:Int))).bind fun r_24 =>
 some r_24

def laws_toNode (a_:TNode):Option (TNode) :=
 (laws_toIntS a_.vars).bind fun y_1 =>
 (laws_toIntS a_.reach).bind fun y_4 =>
 some (⟨y_1,y_4,a_.shared,a_.many⟩:TNode)

def laws_toNodeS (a_:(List TNode)):Option ((List TNode)) :=
 (roomI (a_.length:Int) 64).bind fun _ =>
 (iter (ρ:=(List TNode)) (fun s_5:Int × (List TNode) =>
 cond (ltI s_5.1 (a_.length:Int))
 ((at? a_ s_5.1).bind fun e_13 =>
 (laws_toNode e_13).bind fun y_18 =>
 (at? s_5.2 s_5.1).bind fun e_21 =>
 some (.inl (addI s_5.1 1,s_5.2.set s_5.1.toNat y_18)))
 (some (.inr s_5.2))) (0,List.replicate (a_.length:Int).toNat ((⟨[],[],0,0⟩:TNode):TNode))).bind fun r_27 =>
 some r_27

def laws_toStructure (a_:TStructure):Option (TStructure) :=
 (laws_toNodeS a_.nodes).bind fun y_1 =>
 (laws_toIntS a_.next).bind fun y_4 =>
 some (⟨y_1,y_4⟩:TStructure)

def spec_l15Vars (s:TStructure):Option (Int) :=
 cond (eqI (s.nodes.length:Int) 0)
 (some 0)
 ((at? s.nodes 0).bind fun e_2 =>
 some (e_2.vars.length:Int))

def spec_l1In (x_:Int) (lo:Int) (hi:Int):Option (Bool) :=
 cond (leI lo x_)
 (some (leI x_ hi))
 (some false)

def spec_IsTruth (a_:Int):Option (Bool) :=
 (spec_l1In a_ 0 2).bind fun y_1 =>
 some y_1

def spec_l12Truths (list:(List Int)):Option (Bool) :=
 (iter (ρ:=(Unit) ⊕ (Unit)) (fun s_1:Int =>
 cond (ltI s_1 (list.length:Int))
 ((at? list s_1).bind fun e_9 =>
 (spec_IsTruth e_9).bind fun y_14 =>
 cond y_14
 (some (.inl (addI s_1 1)))
 (some (.inr (.inl ()))))
 (some (.inr (.inr ())))) 0).bind fun r_18 =>
 Sum.elim (fun _r_18 =>
 some false)
 (fun _r_18 =>
 some true) r_18

def spec_IsStructure (vars:Int) (s:TStructure):Option (Bool) :=
 (iter (ρ:=(Unit) ⊕ (Unit)) (fun s_1:Int =>
 cond (ltI s_1 (s.nodes.length:Int))
 ((at? s.nodes s_1).bind fun e_9 =>
 cond (neI (e_9.vars.length:Int) vars)
 (some (.inr (.inl ())))
 (cond (neI (e_9.reach.length:Int) vars)
 (some (.inr (.inl ())))
 ((spec_l12Truths e_9.vars).bind fun y_17 =>
 cond y_17
 ((spec_l12Truths e_9.reach).bind fun y_21 =>
 cond y_21
 ((spec_IsTruth e_9.shared).bind fun y_25 =>
 cond y_25
 ((spec_l1In e_9.many 0 1).bind fun y_29 =>
 cond y_29
 (some (.inl (addI s_1 1)))
 (some (.inr (.inl ()))))
 (some (.inr (.inl ()))))
 (some (.inr (.inl ()))))
 (some (.inr (.inl ()))))))
 (some (.inr (.inr ())))) 0).bind fun r_33 =>
 Sum.elim (fun _r_33 =>
 some false)
 (fun _r_33 =>
 (spec_l1In vars 1 4).bind fun y_41 =>
 cond y_41
 (cond (leI (s.nodes.length:Int) 10)
 (cond (eqI (s.next.length:Int) (mulI (s.nodes.length:Int) (s.nodes.length:Int)))
 ((spec_l12Truths s.next).bind fun y_47 =>
 some y_47)
 (some false))
 (some false))
 (some false)) r_33

def spec_l12CopyNode (x_:TNode):Option (TNode) :=
 (room (([]:List Int).length+x_.vars.length) 8).bind fun _ =>
 (room (([]:List Int).length+x_.reach.length) 8).bind fun _ =>
 some x_

def spec_l12Copy (s:TStructure):Option (TStructure) :=
 (room (([]:List Int).length+s.next.length) 8).bind fun _ =>
 (iter (ρ:=(List TNode)) (fun s_3:Int × (List TNode) =>
 cond (ltI s_3.1 (s.nodes.length:Int))
 ((at? s.nodes s_3.1).bind fun e_11 =>
 (spec_l12CopyNode e_11).bind fun y_16 =>
 (room (s_3.2.length + [y_16].length) 64).bind fun _ =>
 some (.inl (addI s_3.1 1,s_3.2 ++ [y_16])))
 (some (.inr s_3.2))) (0,[])).bind fun r_21 =>
 some (⟨r_21,s.next⟩:TStructure)

def spec_CountPredicates (s:TStructure):Option (Int) :=
 cond (eqI (s.nodes.length:Int) 0)
 (some 0)
 ((spec_l15Vars s).bind fun y_2 =>
 some (addI (mulI 2 y_2) 1))

def spec_l13At (list:(List Int)) (k_:Int):Option (Int) :=
 (spec_l1In k_ 0 (subI (list.length:Int) 1)).bind fun y_1 =>
 cond y_1
 ((at? list k_).bind fun e_5 =>
 some e_5)
 (some 1)

def spec_PredicateAt (s:TStructure) (k_:Int) (i:Int):Option (Int) :=
 (spec_l15Vars s).bind fun y_1 =>
 (spec_l1In i 0 (subI (s.nodes.length:Int) 1)).bind fun y_4 =>
 cond y_4
 ((spec_l1In k_ 0 (subI y_1 1)).bind fun y_8 =>
 cond y_8
 ((at? s.nodes i).bind fun e_12 =>
 (spec_l13At e_12.vars k_).bind fun y_17 =>
 some y_17)
 ((spec_l1In k_ y_1 (subI (mulI 2 y_1) 1)).bind fun y_20 =>
 cond y_20
 ((at? s.nodes i).bind fun e_24 =>
 (spec_l13At e_24.reach (subI k_ y_1)).bind fun y_29 =>
 some y_29)
 (cond (eqI k_ (mulI 2 y_1))
 ((at? s.nodes i).bind fun e_33 =>
 some e_33.shared)
 (some 1))))
 (some 1)

def spec_TruthText (a_:Int):Option (ByteArray) :=
 (spec_IsTruth a_).bind fun y_1 =>
 cond y_1
 ((sub? (⟨#[48,63,49]⟩:ByteArray) a_ (addI a_ 1)).bind fun z_5 =>
 some z_5)
 (some (⟨#[]⟩:ByteArray))

def spec_NodeName (s:TStructure) (i:Int):Option (ByteArray) :=
 (spec_l1In i 0 (subI (s.nodes.length:Int) 1)).bind fun y_1 =>
 cond y_1
 ((spec_CountPredicates s).bind fun y_5 =>
 (iter (ρ:=ByteArray) (fun s_8:ByteArray × Int =>
 cond (ltI s_8.2 y_5)
 ((spec_PredicateAt s s_8.2 i).bind fun y_16 =>
 (spec_TruthText y_16).bind fun y_19 =>
 (catS s_8.1 y_19).bind fun z_22 =>
 some (.inl (z_22,addI s_8.2 1)))
 (some (.inr s_8.1))) ((⟨#[]⟩:ByteArray),0)).bind fun r_25 =>
 some r_25)
 (some (⟨#[]⟩:ByteArray))

def spec_l17Groups (s:TStructure):Option (List (List Int)) :=
 groupsT spec_NodeName s

def spec_l17Node (s:TStructure) (group:(List Int)):Option (TNode) :=
 (at? group 0).bind fun e_1 =>
 (at? s.nodes e_1).bind fun e_6 =>
 (spec_l12CopyNode e_6).bind fun y_11 =>
 (iter (ρ:=Int) (fun s_14:Int × Int =>
 cond (ltI s_14.1 (group.length:Int))
 (cond (ltI 1 (group.length:Int))
 (some (.inl (addI s_14.1 1,1)))
 ((at? group s_14.1).bind fun e_23 =>
 (at? s.nodes e_23).bind fun e_28 =>
 cond (neI e_28.many 0)
 (some (.inl (addI s_14.1 1,1)))
 (some (.inl (addI s_14.1 1,s_14.2)))))
 (some (.inr s_14.2))) (0,y_11.many)).bind fun r_34 =>
 some (⟨y_11.vars,y_11.reach,y_11.shared,r_34⟩:TNode)

def spec_NextOf (s:TStructure) (i:Int) (j:Int):Option (Int) :=
 (spec_l1In i 0 (subI (s.nodes.length:Int) 1)).bind fun y_1 =>
 cond y_1
 ((spec_l1In j 0 (subI (s.nodes.length:Int) 1)).bind fun y_5 =>
 cond y_5
 (cond (neI (s.next.length:Int) (mulI (s.nodes.length:Int) (s.nodes.length:Int)))
 (some 1)
 ((at? s.next (addI (mulI i (s.nodes.length:Int)) j)).bind fun e_10 =>
 some e_10))
 (some 1))
 (some 1)

def spec_JoinOf (a_:Int) (b_:Int):Option (Int) :=
 cond (neI a_ b_)
 (some 1)
 ((spec_IsTruth a_).bind fun y_2 =>
 cond y_2
 (some a_)
 (some 1))

def spec_l17Next (s:TStructure) (a_:(List Int)) (b_:(List Int)):Option (Int) :=
 (at? a_ 0).bind fun e_1 =>
 (at? b_ 0).bind fun e_6 =>
 (spec_NextOf s e_1 e_6).bind fun y_11 =>
 (iter (ρ:=Int) (fun s_14:Int × Int =>
 cond (ltI s_14.2 (a_.length:Int))
 ((iter (ρ:=Int) (fun s_22:Int × Int =>
 cond (ltI s_22.2 (b_.length:Int))
 ((at? a_ s_14.2).bind fun e_30 =>
 (at? b_ s_22.2).bind fun e_35 =>
 (spec_NextOf s e_30 e_35).bind fun y_40 =>
 (spec_JoinOf s_22.1 y_40).bind fun y_43 =>
 some (.inl (y_43,addI s_22.2 1)))
 (some (.inr s_22.1))) (s_14.1,0)).bind fun r_46 =>
 some (.inl (r_46,addI s_14.2 1)))
 (some (.inr s_14.1))) (y_11,0)).bind fun r_51 =>
 some r_51

def spec_Blur (s:TStructure):Option (TStructure) :=
 cond (eqI (s.nodes.length:Int) 0)
 (some (⟨[],[]⟩:TStructure))
 ((spec_l15Vars s).bind fun y_2 =>
 (spec_IsStructure y_2 s).bind fun y_5 =>
 cond y_5
 ((spec_l17Groups s).bind fun y_9 =>
 (iter (ρ:=(List TNode) × (List Int)) (fun s_12:Int × (List TNode) × (List Int) =>
 cond (ltI s_12.1 (y_9.length:Int))
 ((at? y_9 s_12.1).bind fun e_20 =>
 (spec_l17Node s e_20).bind fun y_25 =>
 (room (s_12.2.1.length + [y_25].length) 64).bind fun _ =>
 (iter (ρ:=(List Int)) (fun s_30:Int × (List Int) =>
 cond (ltI s_30.1 (y_9.length:Int))
 ((at? y_9 s_12.1).bind fun _ =>
 (at? y_9 s_30.1).bind fun e_43 =>
 (spec_l17Next s e_20 e_43).bind fun y_48 =>
 (room (s_30.2.length + [y_48].length) 8).bind fun _ =>
 some (.inl (addI s_30.1 1,s_30.2 ++ [y_48])))
 (some (.inr s_30.2))) (0,s_12.2.2)).bind fun r_53 =>
 some (.inl (addI s_12.1 1,s_12.2.1 ++ [y_25],r_53)))
 (some (.inr (s_12.2.1,s_12.2.2)))) (0,[],[])).bind fun r_58 =>
 some (⟨r_58.1,r_58.2⟩:TStructure))
 ((spec_l12Copy s).bind fun y_63 =>
 some y_63))

def impl_variables (s:TStructure):Option (Int) :=
 cond (eqI (s.nodes.length:Int) 0)
 (some 0)
 ((at? s.nodes 0).bind fun e_2 =>
 some (e_2.vars.length:Int))

def impl_within (n_:Int) (low:Int) (high:Int):Option (Bool) :=
 cond (leI low n_)
 (some (leI n_ high))
 (some false)

def impl_IsTruth (a_:Int):Option (Bool) :=
 (impl_within a_ 0 2).bind fun y_1 =>
 some y_1

def impl_areTruths_1 (a_:Int):Option (Bool) :=
 (impl_IsTruth a_).bind fun y_1 =>
 some (notB y_1)

def slices_IndexFunc_int (s:(List Int)) (f_:(Int→Option (Bool))):Option (Int) :=
 (iter (ρ:=(Int) ⊕ (Unit)) (fun s_1:Int =>
 cond (ltI s_1 (s.length:Int))
 ((at? s s_1).bind fun e_10 =>
 (f_ e_10).bind fun y_15 =>
 cond y_15
 (some (.inr (.inl s_1)))
 (some (.inl (addI s_1 1))))
 (some (.inr (.inr ())))) 0).bind fun r_18 =>
 Sum.elim (fun r_18 =>
 some r_18)
 (fun _r_18 =>
 some (-1)) r_18

def slices_ContainsFunc_int (s:(List Int)) (f_:(Int→Option (Bool))):Option (Bool) :=
 (slices_IndexFunc_int s f_).bind fun y_1 =>
 some (leI 0 y_1)

def impl_areTruths (list:(List Int)):Option (Bool) :=
 (slices_ContainsFunc_int list (fun x0=>impl_areTruths_1 x0)).bind fun y_1 =>
 some (notB y_1)

def slices_IndexFunc_Node (s:(List TNode)) (f_:(TNode→Option (Bool))):Option (Int) :=
 (iter (ρ:=(Int) ⊕ (Unit)) (fun s_1:Int =>
 cond (ltI s_1 (s.length:Int))
 ((at? s s_1).bind fun e_10 =>
 (f_ e_10).bind fun y_15 =>
 cond y_15
 (some (.inr (.inl s_1)))
 (some (.inl (addI s_1 1))))
 (some (.inr (.inr ())))) 0).bind fun r_18 =>
 Sum.elim (fun r_18 =>
 some r_18)
 (fun _r_18 =>
 some (-1)) r_18

def slices_ContainsFunc_Node (s:(List TNode)) (f_:(TNode→Option (Bool))):Option (Bool) :=
 (slices_IndexFunc_Node s f_).bind fun y_1 =>
 some (leI 0 y_1)

def impl_IsStructure_1 (x_:TNode) (c0:Int):Option (Bool) :=
 cond (neI (x_.vars.length:Int) c0)
 (some true)
 (cond (neI (x_.reach.length:Int) c0)
 (some true)
 ((impl_areTruths x_.vars).bind fun y_3 =>
 cond y_3
 ((impl_areTruths x_.reach).bind fun y_7 =>
 cond y_7
 ((impl_IsTruth x_.shared).bind fun y_11 =>
 cond y_11
 (cond (neI x_.many 0)
 (some (neI x_.many 1))
 (some false))
 (some true))
 (some true))
 (some true)))

def impl_IsStructure (vars:Int) (s:TStructure):Option (Bool) :=
 (impl_within vars 1 4).bind fun y_1 =>
 cond y_1
 (cond (ltI 10 (s.nodes.length:Int))
 (some false)
 (cond (neI (s.next.length:Int) (mulI (s.nodes.length:Int) (s.nodes.length:Int)))
 (some false)
 ((impl_areTruths s.next).bind fun y_7 =>
 cond y_7
 ((slices_ContainsFunc_Node s.nodes (fun x0=>impl_IsStructure_1 x0 vars)).bind fun y_11 =>
 some (notB y_11))
 (some false))))
 (some false)

def impl_Node_own (x_:TNode):Option (TNode) :=
 (slices_Clone_int x_.vars).bind fun y_1 =>
 (slices_Clone_int x_.reach).bind fun y_4 =>
 some (⟨y_1,y_4,x_.shared,x_.many⟩:TNode)

def impl_Structure_own (s:TStructure):Option (TStructure) :=
 (slices_Clone_int s.next).bind fun y_1 =>
 (iter (ρ:=(List TNode)) (fun s_4:Int × (List TNode) =>
 cond (ltI s_4.1 (s.nodes.length:Int))
 ((at? s.nodes s_4.1).bind fun e_12 =>
 (impl_Node_own e_12).bind fun y_18 =>
 (room (s_4.2.length + [y_18].length) 64).bind fun _ =>
 some (.inl (addI s_4.1 1,s_4.2 ++ [y_18])))
 (some (.inr s_4.2))) (0,[])).bind fun r_23 =>
 some (⟨r_23,y_1⟩:TStructure)

def impl_Structure_isNode (s:TStructure) (i:Int):Option (Bool) :=
 (impl_within i 0 (subI (s.nodes.length:Int) 1)).bind fun y_1 =>
 some y_1

def impl_CountPredicates (s:TStructure):Option (Int) :=
 cond (eqI (s.nodes.length:Int) 0)
 (some 0)
 ((impl_variables s).bind fun y_2 =>
 some (addI (mulI 2 y_2) 1))

def impl_PredicateAt (s:TStructure) (k_:Int) (i:Int):Option (Int) :=
 (impl_variables s).bind fun y_1 =>
 (impl_Structure_isNode s i).bind fun y_4 =>
 cond y_4
 ((at? s.nodes i).bind fun e_8 =>
 cond (eqI k_ (mulI 2 y_1))
 (some e_8.shared)
 ((impl_within k_ 0 (subI y_1 1)).bind fun y_14 =>
 cond y_14
 ((impl_within k_ 0 (subI (e_8.vars.length:Int) 1)).bind fun y_18 =>
 cond y_18
 ((at? e_8.vars k_).bind fun e_22 =>
 some e_22)
 (some 1))
 ((impl_within k_ y_1 (subI (mulI 2 y_1) 1)).bind fun y_27 =>
 cond y_27
 ((impl_within (subI k_ y_1) 0 (subI (e_8.reach.length:Int) 1)).bind fun y_31 =>
 cond y_31
 ((at? e_8.reach (subI k_ y_1)).bind fun e_35 =>
 some e_35)
 (some 1))
 ((impl_within k_ 0 (subI 0 1)).bind fun y_40 =>
 cond y_40
 ((at? [] k_).bind fun e_44 =>
 some e_44)
 (some 1)))))
 (some 1)

def impl_TruthText (a_:Int):Option (ByteArray) :=
 (impl_IsTruth a_).bind fun y_1 =>
 cond y_1
 ((sub? (⟨#[48,63,49]⟩:ByteArray) a_ (addI a_ 1)).bind fun z_5 =>
 some z_5)
 (some (⟨#[]⟩:ByteArray))

def impl_NodeName (s:TStructure) (i:Int):Option (ByteArray) :=
 (impl_Structure_isNode s i).bind fun y_1 =>
 cond y_1
 ((impl_CountPredicates s).bind fun y_5 =>
 (iter (ρ:=ByteArray) (fun s_8:ByteArray × Int =>
 cond (ltI s_8.2 y_5)
 ((impl_PredicateAt s s_8.2 i).bind fun y_16 =>
 (impl_TruthText y_16).bind fun y_19 =>
 (catS s_8.1 y_19).bind fun z_22 =>
 some (.inl (z_22,addI s_8.2 1)))
 (some (.inr s_8.1))) ((⟨#[]⟩:ByteArray),0)).bind fun r_25 =>
 some r_25)
 (some (⟨#[]⟩:ByteArray))

def impl_NextOf (s:TStructure) (i:Int) (j:Int):Option (Int) :=
 (impl_Structure_isNode s i).bind fun y_1 =>
 cond y_1
 ((impl_Structure_isNode s j).bind fun y_5 =>
 cond y_5
 (cond (neI (s.next.length:Int) (mulI (s.nodes.length:Int) (s.nodes.length:Int)))
 (some 1)
 ((at? s.next (addI (mulI i (s.nodes.length:Int)) j)).bind fun e_10 =>
 some e_10))
 (some 1))
 (some 1)

def impl_JoinOf (a_:Int) (b_:Int):Option (Int) :=
 cond (neI a_ b_)
 (some 1)
 ((impl_IsTruth a_).bind fun y_2 =>
 cond y_2
 (some a_)
 (some 1))

def impl_joinNext (s:TStructure) (from_:(List Int)) (to_:(List Int)):Option (Int) :=
 (at? from_ 0).bind fun e_1 =>
 (at? to_ 0).bind fun e_6 =>
 (impl_NextOf s e_1 e_6).bind fun y_11 =>
 (iter (ρ:=Int) (fun s_14:Int × Int =>
 cond (ltI s_14.2 (from_.length:Int))
 ((at? from_ s_14.2).bind fun e_22 =>
 (iter (ρ:=Int) (fun s_27:Int × Int =>
 cond (ltI s_27.2 (to_.length:Int))
 ((at? to_ s_27.2).bind fun e_35 =>
 (impl_NextOf s e_22 e_35).bind fun y_40 =>
 (impl_JoinOf s_27.1 y_40).bind fun y_43 =>
 some (.inl (y_43,addI s_27.2 1)))
 (some (.inr s_27.1))) (s_14.1,0)).bind fun r_46 =>
 some (.inl (r_46,addI s_14.2 1)))
 (some (.inr s_14.1))) (y_11,0)).bind fun r_51 =>
 some r_51

def impl_Blur (s:TStructure):Option (TStructure) :=
 cond (eqI (s.nodes.length:Int) 0)
 (some (⟨[],[]⟩:TStructure))
 ((impl_variables s).bind fun y_2 =>
 (impl_IsStructure y_2 s).bind fun y_5 =>
 cond y_5
 ((preT impl_NodeName s).bind fun p_9 =>
 (iter (ρ:=(List TNode) × (List Int)) (fun s_11:Int × (List TNode) × (List Int) =>
 cond (ltI s_11.1 (p_9.2.length:Int))
 ((at? p_9.2 s_11.1).bind fun e_19 =>
 (lookT e_19 p_9.1).bind fun y_24 =>
 (at? y_24 0).bind fun e_27 =>
 (at? s.nodes e_27).bind fun e_32 =>
 (impl_Node_own e_32).bind fun y_37 =>
 (lookT e_19 p_9.1).bind fun _ =>
 (iter (ρ:=Int) (fun s_42:Int × Int =>
 cond (ltI s_42.1 (y_24.length:Int))
 ((at? y_24 s_42.1).bind fun e_50 =>
 cond (ltI 0 s_42.1)
 (some (.inl (addI s_42.1 1,1)))
 ((at? s.nodes e_50).bind fun e_56 =>
 cond (neI e_56.many 0)
 (some (.inl (addI s_42.1 1,1)))
 (some (.inl (addI s_42.1 1,s_42.2)))))
 (some (.inr s_42.2))) (0,y_37.many)).bind fun r_62 =>
 (room (s_11.2.1.length + [(⟨y_37.vars,y_37.reach,y_37.shared,r_62⟩:TNode)].length) 64).bind fun _ =>
 (iter (ρ:=(List Int)) (fun s_69:Int × (List Int) =>
 cond (ltI s_69.1 (p_9.2.length:Int))
 ((at? p_9.2 s_69.1).bind fun e_77 =>
 (lookT e_19 p_9.1).bind fun _ =>
 (lookT e_77 p_9.1).bind fun y_83 =>
 (impl_joinNext s y_24 y_83).bind fun y_86 =>
 (room (s_69.2.length + [y_86].length) 8).bind fun _ =>
 some (.inl (addI s_69.1 1,s_69.2 ++ [y_86])))
 (some (.inr s_69.2))) (0,s_11.2.2)).bind fun r_91 =>
 some (.inl (addI s_11.1 1,s_11.2.1 ++ [(⟨y_37.vars,y_37.reach,y_37.shared,r_62⟩:TNode)],r_91)))
 (some (.inr (s_11.2.1,s_11.2.2)))) (0,[],[])).bind fun r_96 =>
 some (⟨r_96.1,r_96.2⟩:TStructure))
 ((impl_Structure_own s).bind fun y_101 =>
 some y_101))

def laws_eqIntS (a_:(List Int)) (b_:(List Int)):Option (Bool) :=
 cond (neI (a_.length:Int) (b_.length:Int))
 (some false)
 ((iter (ρ:=(Unit) ⊕ (Unit)) (fun s_2:Int =>
 cond (ltI s_2 (a_.length:Int))
 ((at? a_ s_2).bind fun e_10 =>
 (at? b_ s_2).bind fun e_15 =>
 cond (neI e_10 e_15)
 (some (.inr (.inl ())))
 (some (.inl (addI s_2 1))))
 (some (.inr (.inr ())))) 0).bind fun r_21 =>
 Sum.elim (fun _r_21 =>
 some false)
 (fun _r_21 =>
 some true) r_21)

def laws_eqNode (a_:TNode) (b_:TNode):Option (Bool) :=
 (laws_eqIntS a_.vars b_.vars).bind fun y_1 =>
 cond y_1
 ((laws_eqIntS a_.reach b_.reach).bind fun y_5 =>
 cond y_5
 (cond (neI a_.shared b_.shared)
 (some false)
 (cond (neI a_.many b_.many)
 (some false)
 (some true)))
 (some false))
 (some false)

def laws_eqNodeS (a_:(List TNode)) (b_:(List TNode)):Option (Bool) :=
 cond (neI (a_.length:Int) (b_.length:Int))
 (some false)
 ((iter (ρ:=(Unit) ⊕ (Unit)) (fun s_2:Int =>
 cond (ltI s_2 (a_.length:Int))
 ((at? a_ s_2).bind fun e_10 =>
 (at? b_ s_2).bind fun e_15 =>
 (laws_eqNode e_10 e_15).bind fun y_20 =>
 cond y_20
 (some (.inl (addI s_2 1)))
 (some (.inr (.inl ()))))
 (some (.inr (.inr ())))) 0).bind fun r_24 =>
 Sum.elim (fun _r_24 =>
 some false)
 (fun _r_24 =>
 some true) r_24)

def laws_eqStructure (a_:TStructure) (b_:TStructure):Option (Bool) :=
 (laws_eqNodeS a_.nodes b_.nodes).bind fun y_1 =>
 cond y_1
 ((laws_eqIntS a_.next b_.next).bind fun y_5 =>
 cond y_5
 (some true)
 (some false))
 (some false)

def laws_heldIntS (a_:(List Int)) (k_:Int):Option (Int) :=
 (iter (ρ:=(Int) ⊕ (Int)) (fun s_1:Int × Int =>
 cond (ltI s_1.2 (a_.length:Int))
 ((at? a_ s_1.2).bind fun e_9 =>
 cond (neI e_9 s_1.1)
 (some (.inr (.inl (-1))))
 (some (.inl (addI s_1.1 1,addI s_1.2 1))))
 (some (.inr (.inr s_1.1)))) (k_,0)).bind fun r_15 =>
 Sum.elim (fun r_15 =>
 some r_15)
 (fun r_15 =>
 some r_15) r_15

def laws_heldNodeS (a_:(List TNode)) (k_:Int):Option (Int) :=
 (iter (ρ:=(Int) ⊕ (Int)) (fun s_1:Int × Int =>
 cond (ltI s_1.2 (a_.length:Int))
 ((at? a_ s_1.2).bind fun e_9 =>
 (laws_heldIntS e_9.vars s_1.1).bind fun y_14 =>
 cond (ltI y_14 0)
 (some (.inr (.inl (-1))))
 ((at? a_ s_1.2).bind fun _ =>
 (laws_heldIntS e_9.reach y_14).bind fun y_23 =>
 cond (ltI y_23 0)
 (some (.inr (.inl (-1))))
 ((at? a_ s_1.2).bind fun _ =>
 cond (neI e_9.shared y_23)
 (some (.inr (.inl (-1))))
 ((at? a_ s_1.2).bind fun _ =>
 cond (neI e_9.many (addI y_23 1))
 (some (.inr (.inl (-1))))
 (some (.inl (addI (addI y_23 1) 1,addI s_1.2 1)))))))
 (some (.inr (.inr s_1.1)))) (k_,0)).bind fun r_39 =>
 Sum.elim (fun r_39 =>
 some r_39)
 (fun r_39 =>
 some r_39) r_39

def laws_heldStructure (a_:TStructure) (k_:Int):Option (Int) :=
 (laws_heldNodeS a_.nodes k_).bind fun y_1 =>
 cond (ltI y_1 0)
 (some (-1))
 ((laws_heldIntS a_.next y_1).bind fun y_5 =>
 cond (ltI y_5 0)
 (some (-1))
 (some y_5))

def laws_FnExactBlur (aS:TStructure):Option (Bool) :=
 (laws_szStructure aS 1048576).bind fun y_1 =>
 cond (ltI y_1 0)
 (some true)
 ((laws_toStructure aS).bind fun y_5 =>
 (spec_Blur y_5).bind fun y_8 =>
 (laws_toStructure aS).bind fun _ =>
 (impl_Blur y_5).bind fun y_13 =>
 (laws_eqStructure y_13 y_8).bind fun y_16 =>
 cond y_16
 ((laws_toStructure aS).bind fun _ =>
 (laws_eqStructure y_5 y_5).bind fun y_22 =>
 cond y_22
 ((markO mkF_markStructure y_5 1).bind fun r_26 =>
 cond (ltI r_26.2 0)
 (some false)
 ((laws_eqStructure y_13 y_8).bind fun y_49 =>
 cond y_49
 ((markO mkF_markStructure y_13 1).bind fun r_53 =>
 (laws_heldStructure r_53.1 1).bind fun y_75 =>
 cond (ltI y_75 0)
 (some false)
 (cond (neI y_75 r_53.2)
 (some false)
 ((laws_toStructure aS).bind fun y_80 =>
 (impl_Blur y_80).bind fun y_83 =>
 (laws_eqStructure y_83 y_8).bind fun y_87 =>
 cond y_87
 ((laws_heldStructure r_53.1 1).bind fun _ =>
 some true)
 (some false))))
 (some false)))
 (some false))
 (some false))

def spec_l7Same (a_:(List Int)) (b_:(List Int)):Option (Bool) :=
 cond (neI (a_.length:Int) (b_.length:Int))
 (some false)
 ((iter (ρ:=(Unit) ⊕ (Unit)) (fun s_2:Int =>
 cond (ltI s_2 (a_.length:Int))
 ((at? a_ s_2).bind fun e_10 =>
 (at? b_ s_2).bind fun e_15 =>
 cond (neI e_10 e_15)
 (some (.inr (.inl ())))
 (some (.inl (addI s_2 1))))
 (some (.inr (.inr ())))) 0).bind fun r_21 =>
 Sum.elim (fun _r_21 =>
 some false)
 (fun _r_21 =>
 some true) r_21)

def spec_l12SameNode (a_:TNode) (b_:TNode):Option (Bool) :=
 (spec_l7Same a_.vars b_.vars).bind fun y_1 =>
 cond y_1
 ((spec_l7Same a_.reach b_.reach).bind fun y_5 =>
 cond y_5
 (cond (eqI a_.shared b_.shared)
 (some (eqI a_.many b_.many))
 (some false))
 (some false))
 (some false)

def spec_EqualStructure (a_:TStructure) (b_:TStructure):Option (Bool) :=
 cond (neI (a_.nodes.length:Int) (b_.nodes.length:Int))
 (some false)
 ((spec_l7Same a_.next b_.next).bind fun y_2 =>
 cond y_2
 ((iter (ρ:=(Unit) ⊕ (Unit)) (fun s_6:Int =>
 cond (ltI s_6 (a_.nodes.length:Int))
 ((at? a_.nodes s_6).bind fun e_14 =>
 (at? b_.nodes s_6).bind fun e_19 =>
 (spec_l12SameNode e_14 e_19).bind fun y_24 =>
 cond y_24
 (some (.inl (addI s_6 1)))
 (some (.inr (.inl ()))))
 (some (.inr (.inr ())))) 0).bind fun r_28 =>
 Sum.elim (fun _r_28 =>
 some false)
 (fun _r_28 =>
 some true) r_28)
 (some false))

def spec_IsBlurred (s:TStructure):Option (Bool) :=
 (spec_Blur s).bind fun y_1 =>
 (spec_EqualStructure s y_1).bind fun y_4 =>
 some y_4

def slices_Equal_int (s1:(List Int)) (s2:(List Int)):Option (Bool) :=
 cond (neI (s1.length:Int) (s2.length:Int))
 (some false)
 ((iter (ρ:=(Unit) ⊕ (Unit)) (fun s_2:Int =>
 cond (ltI s_2 (s1.length:Int))
 ((at? s1 s_2).bind fun e_10 =>
 (at? s2 s_2).bind fun e_15 =>
 cond (neI e_10 e_15)
 (some (.inr (.inl ())))
 (some (.inl (addI s_2 1))))
 (some (.inr (.inr ())))) 0).bind fun r_21 =>
 Sum.elim (fun _r_21 =>
 some false)
 (fun _r_21 =>
 some true) r_21)

def impl_EqualStructure_1 (x_:TNode) (y_:TNode):Option (Bool) :=
 (slices_Equal_int x_.vars y_.vars).bind fun y_1 =>
 cond y_1
 ((slices_Equal_int x_.reach y_.reach).bind fun y_5 =>
 cond y_5
 (cond (eqI x_.shared y_.shared)
 (some (eqI x_.many y_.many))
 (some false))
 (some false))
 (some false)

def slices_EqualFunc_Nodeimpl_Node_impl_Node_impl_Node_ (s1:(List TNode)) (s2:(List TNode)) (eq:(TNode→TNode→Option (Bool))):Option (Bool) :=
 cond (neI (s1.length:Int) (s2.length:Int))
 (some false)
 ((iter (ρ:=(Unit) ⊕ (Unit)) (fun s_2:Int =>
 cond (ltI s_2 (s1.length:Int))
 ((at? s1 s_2).bind fun e_13 =>
 (at? s2 s_2).bind fun e_19 =>
 (eq e_13 e_19).bind fun y_25 =>
 cond y_25
 (some (.inl (addI s_2 1)))
 (some (.inr (.inl ()))))
 (some (.inr (.inr ())))) 0).bind fun r_28 =>
 Sum.elim (fun _r_28 =>
 some false)
 (fun _r_28 =>
 some true) r_28)

def impl_EqualStructure (a_:TStructure) (b_:TStructure):Option (Bool) :=
 (slices_Equal_int a_.next b_.next).bind fun y_1 =>
 cond y_1
 ((slices_EqualFunc_Nodeimpl_Node_impl_Node_impl_Node_ a_.nodes b_.nodes (fun x0 x1=>impl_EqualStructure_1 x0 x1)).bind fun y_5 =>
 some y_5)
 (some false)

def impl_IsBlurred (s:TStructure):Option (Bool) :=
 (impl_Blur s).bind fun y_1 =>
 (impl_EqualStructure s y_1).bind fun y_4 =>
 some y_4

def laws_FnExactIsBlurred (aS:TStructure):Option (Bool) :=
 (laws_szStructure aS 1048576).bind fun y_1 =>
 cond (ltI y_1 0)
 (some true)
 ((laws_toStructure aS).bind fun y_5 =>
 (spec_IsBlurred y_5).bind fun y_8 =>
 (laws_toStructure aS).bind fun _ =>
 (impl_IsBlurred y_5).bind fun y_13 =>
 cond (neB y_13 y_8)
 (some false)
 ((laws_toStructure aS).bind fun _ =>
 (laws_eqStructure y_5 y_5).bind fun y_19 =>
 cond y_19
 (some true)
 (some false)))

def laws_szHeap (a_:THeap) (left:Int):Option (Int) :=
 (laws_szIntS a_.vars left).bind fun y_1 =>
 cond (ltI y_1 0)
 (some (-1))
 ((laws_szIntS a_.next y_1).bind fun y_5 =>
 cond (ltI y_5 0)
 (some (-1))
 (some y_5))

def laws_toHeap (a_:THeap):Option (THeap) :=
 (laws_toIntS a_.vars).bind fun y_1 =>
 (laws_toIntS a_.next).bind fun y_4 =>
 some (⟨y_1,y_4⟩:THeap)

def spec_l7Cells (h_:THeap):Option (Bool) :=
 (iter (ρ:=(Unit) ⊕ (Unit)) (fun s_1:Int =>
 cond (ltI s_1 (h_.vars.length:Int))
 ((at? h_.vars s_1).bind fun e_9 =>
 (spec_l1In e_9 (-1) (subI (h_.next.length:Int) 1)).bind fun y_14 =>
 cond y_14
 (some (.inl (addI s_1 1)))
 (some (.inr (.inl ()))))
 (some (.inr (.inr ())))) 0).bind fun r_18 =>
 Sum.elim (fun _r_18 =>
 some false)
 (fun _r_18 =>
 (iter (ρ:=(Bool) ⊕ (Unit)) (fun s_26:Int =>
 cond (ltI s_26 (h_.next.length:Int))
 ((at? h_.next s_26).bind fun e_34 =>
 (spec_l1In e_34 (-1) (subI (h_.next.length:Int) 1)).bind fun y_39 =>
 cond y_39
 (some (.inl (addI s_26 1)))
 (some (.inr (.inl false))))
 (some (.inr (.inr ())))) 0).bind fun r_43 =>
 Sum.elim (fun r_43 =>
 some r_43)
 (fun _r_43 =>
 some true) r_43) r_18

def spec_Positions (list:(List Int)) (n_:Int):Option ((List Int)) :=
 (iter (ρ:=(List Int)) (fun s_1:(List Int) × Int =>
 cond (ltI s_1.2 (list.length:Int))
 ((at? list s_1.2).bind fun e_9 =>
 cond (eqI e_9 n_)
 ((room (s_1.1.length + [s_1.2].length) 8).bind fun _ =>
 some (.inl (s_1.1 ++ [s_1.2],addI s_1.2 1)))
 (some (.inl (s_1.1,addI s_1.2 1))))
 (some (.inr s_1.1))) ([],0)).bind fun r_17 =>
 some r_17

def spec_l3Of (on:Bool):Option (Int) :=
 cond on
 (some 2)
 (some 0)

def spec_l7Has (list:(List Int)) (n_:Int):Option (Bool) :=
 (spec_Positions list n_).bind fun y_1 =>
 some (ltI 0 (y_1.length:Int))

def spec_Followed (h_:THeap) (cell:Int):Option ((List Int)) :=
 (iter (ρ:=((List Int)) ⊕ (Unit)) (fun s_1:Int × (List Int) =>
 cond (neI s_1.1 (-1))
 ((spec_l7Has s_1.2 s_1.1).bind fun y_9 =>
 cond y_9
 (some (.inr (.inl s_1.2)))
 ((spec_l1In s_1.1 0 (subI (h_.next.length:Int) 1)).bind fun y_13 =>
 cond y_13
 ((room (s_1.2.length + [s_1.1].length) 8).bind fun _ =>
 (at? h_.next s_1.1).bind fun e_19 =>
 some (.inl (e_19,s_1.2 ++ [s_1.1])))
 (some (.inr (.inr ())))))
 (some (.inr (.inl s_1.2)))) (cell,[])).bind fun r_24 =>
 Sum.elim (fun r_24 =>
 some r_24)
 (fun _r_24 =>
 some []) r_24

def spec_StructureOf (h_:THeap):Option (TStructure) :=
 (spec_l7Cells h_).bind fun y_1 =>
 cond y_1
 (cond (ltI 10 (h_.next.length:Int))
 (some (⟨[],[]⟩:TStructure))
 ((spec_l1In (h_.vars.length:Int) 1 4).bind fun y_6 =>
 cond y_6
 ((iter (ρ:=(List TNode) × (List Int)) (fun s_10:Int × (List TNode) × (List Int) =>
 cond (ltI s_10.1 (h_.next.length:Int))
 ((spec_Positions h_.next s_10.1).bind fun y_18 =>
 (spec_l3Of (ltI 1 (y_18.length:Int))).bind fun y_21 =>
 (iter (ρ:=(List Int) × (List Int)) (fun s_25:Int × (List Int) × (List Int) =>
 cond (ltI s_25.1 (h_.vars.length:Int))
 ((at? h_.vars s_25.1).bind fun e_33 =>
 (spec_l3Of (eqI e_33 s_10.1)).bind fun y_38 =>
 (room (s_25.2.1.length + [y_38].length) 8).bind fun _ =>
 (at? h_.vars s_25.1).bind fun _ =>
 (spec_Followed h_ e_33).bind fun y_48 =>
 (spec_l7Has y_48 s_10.1).bind fun y_51 =>
 (spec_l3Of y_51).bind fun y_54 =>
 (room (s_25.2.2.length + [y_54].length) 8).bind fun _ =>
 some (.inl (addI s_25.1 1,s_25.2.1 ++ [y_38],s_25.2.2 ++ [y_54])))
 (some (.inr (s_25.2.1,s_25.2.2)))) (0,[],[])).bind fun r_59 =>
 (room (s_10.2.1.length + [(⟨r_59.1,r_59.2,y_21,0⟩:TNode)].length) 64).bind fun _ =>
 (iter (ρ:=(List Int)) (fun s_66:Int × (List Int) =>
 cond (ltI s_66.1 (h_.next.length:Int))
 ((at? h_.next s_10.1).bind fun e_74 =>
 (spec_l3Of (eqI e_74 s_66.1)).bind fun y_79 =>
 (room (s_66.2.length + [y_79].length) 8).bind fun _ =>
 some (.inl (addI s_66.1 1,s_66.2 ++ [y_79])))
 (some (.inr s_66.2))) (0,s_10.2.2)).bind fun r_84 =>
 some (.inl (addI s_10.1 1,s_10.2.1 ++ [(⟨r_59.1,r_59.2,y_21,0⟩:TNode)],r_84)))
 (some (.inr (s_10.2.1,s_10.2.2)))) (0,[],[])).bind fun r_89 =>
 some (⟨r_89.1,r_89.2⟩:TStructure))
 (some (⟨[],[]⟩:TStructure))))
 (some (⟨[],[]⟩:TStructure))

def spec_AbstractionOf (h_:THeap):Option (TStructure) :=
 (spec_StructureOf h_).bind fun y_1 =>
 (spec_Blur y_1).bind fun y_4 =>
 some y_4

def impl_Heap_isCell (h_:THeap) (n_:Int):Option (Bool) :=
 (impl_within n_ 0 (subI (h_.next.length:Int) 1)).bind fun y_1 =>
 some y_1

def impl_Heap_areCells_1 (n_:Int) (c0:THeap):Option (Bool) :=
 cond (neI n_ (-1))
 ((impl_Heap_isCell c0 n_).bind fun y_2 =>
 some (notB y_2))
 (some false)

def impl_Heap_areCells (h_:THeap):Option (Bool) :=
 (slices_Concat_int [h_.vars,h_.next]).bind fun y_1 =>
 (slices_ContainsFunc_int y_1 (fun x0=>impl_Heap_areCells_1 x0 h_)).bind fun y_4 =>
 some (notB y_4)

def impl_Positions (list:(List Int)) (n_:Int):Option ((List Int)) :=
 (iter (ρ:=(List Int)) (fun s_1:(List Int) × Int =>
 cond (ltI s_1.2 (list.length:Int))
 ((at? list s_1.2).bind fun e_9 =>
 cond (eqI e_9 n_)
 ((room (s_1.1.length + [s_1.2].length) 8).bind fun _ =>
 some (.inl (s_1.1 ++ [s_1.2],addI s_1.2 1)))
 (some (.inl (s_1.1,addI s_1.2 1))))
 (some (.inr s_1.1))) ([],0)).bind fun r_17 =>
 some r_17

def impl_truthOf (b_:Bool):Option (Int) :=
 cond b_
 (some 2)
 (some 0)

def slices_Index_int (s:(List Int)) (v:Int):Option (Int) :=
 (iter (ρ:=(Int) ⊕ (Unit)) (fun s_1:Int =>
 cond (ltI s_1 (s.length:Int))
 ((at? s s_1).bind fun e_9 =>
 cond (eqI v e_9)
 (some (.inr (.inl s_1)))
 (some (.inl (addI s_1 1))))
 (some (.inr (.inr ())))) 0).bind fun r_15 =>
 Sum.elim (fun r_15 =>
 some r_15)
 (fun _r_15 =>
 some (-1)) r_15

def slices_Contains_int (s:(List Int)) (v:Int):Option (Bool) :=
 (slices_Index_int s v).bind fun y_1 =>
 some (leI 0 y_1)

def impl_Followed (h_:THeap) (cell:Int):Option ((List Int)) :=
 (iter (ρ:=((List Int)) ⊕ (Unit)) (fun s_1:(List Int) × Int =>
 cond (neI s_1.2 (-1))
 ((impl_Heap_isCell h_ s_1.2).bind fun y_9 =>
 cond y_9
 ((slices_Contains_int s_1.1 s_1.2).bind fun y_13 =>
 cond y_13
 (some (.inr (.inl s_1.1)))
 ((room (s_1.1.length + [s_1.2].length) 8).bind fun _ =>
 (at? h_.next s_1.2).bind fun e_19 =>
 some (.inl (s_1.1 ++ [s_1.2],e_19))))
 (some (.inr (.inr ()))))
 (cond (eqI cell (-1))
 ((impl_Heap_isCell h_ s_1.2).bind fun y_25 =>
 cond y_25
 ((slices_Contains_int s_1.1 s_1.2).bind fun y_29 =>
 cond y_29
 (some (.inr (.inl s_1.1)))
 ((room (s_1.1.length + [s_1.2].length) 8).bind fun _ =>
 (at? h_.next s_1.2).bind fun e_35 =>
 some (.inl (s_1.1 ++ [s_1.2],e_35))))
 (some (.inr (.inr ()))))
 (some (.inr (.inl s_1.1))))) ([],cell)).bind fun r_40 =>
 Sum.elim (fun r_40 =>
 some r_40)
 (fun _r_40 =>
 some []) r_40

def impl_StructureOf (h_:THeap):Option (TStructure) :=
 (impl_Heap_areCells h_).bind fun y_1 =>
 cond y_1
 (cond (ltI 10 (h_.next.length:Int))
 (some (⟨[],[]⟩:TStructure))
 ((impl_within (h_.vars.length:Int) 1 4).bind fun y_6 =>
 cond y_6
 ((iter (ρ:=(List TNode) × (List Int)) (fun s_10:Int × (List TNode) × (List Int) =>
 cond (ltI s_10.1 (h_.next.length:Int))
 ((impl_Positions h_.next s_10.1).bind fun y_18 =>
 (impl_truthOf (ltI 1 (y_18.length:Int))).bind fun y_21 =>
 (iter (ρ:=(List Int) × (List Int)) (fun s_25:Int × (List Int) × (List Int) =>
 cond (ltI s_25.1 (h_.vars.length:Int))
 ((at? h_.vars s_25.1).bind fun e_33 =>
 (impl_truthOf (eqI e_33 s_10.1)).bind fun y_38 =>
 (room (s_25.2.1.length + [y_38].length) 8).bind fun _ =>
 (impl_Followed h_ e_33).bind fun y_43 =>
 (slices_Contains_int y_43 s_10.1).bind fun y_46 =>
 (impl_truthOf y_46).bind fun y_49 =>
 (room (s_25.2.2.length + [y_49].length) 8).bind fun _ =>
 some (.inl (addI s_25.1 1,s_25.2.1 ++ [y_38],s_25.2.2 ++ [y_49])))
 (some (.inr (s_25.2.1,s_25.2.2)))) (0,[],[])).bind fun r_54 =>
 (room (s_10.2.1.length + [(⟨r_54.1,r_54.2,y_21,0⟩:TNode)].length) 64).bind fun _ =>
 (iter (ρ:=(List Int)) (fun s_61:Int × (List Int) =>
 cond (ltI s_61.1 (h_.next.length:Int))
 ((at? h_.next s_10.1).bind fun e_69 =>
 (impl_truthOf (eqI e_69 s_61.1)).bind fun y_74 =>
 (room (s_61.2.length + [y_74].length) 8).bind fun _ =>
 some (.inl (addI s_61.1 1,s_61.2 ++ [y_74])))
 (some (.inr s_61.2))) (0,s_10.2.2)).bind fun r_79 =>
 some (.inl (addI s_10.1 1,s_10.2.1 ++ [(⟨r_54.1,r_54.2,y_21,0⟩:TNode)],r_79)))
 (some (.inr (s_10.2.1,s_10.2.2)))) (0,[],[])).bind fun r_84 =>
 some (⟨r_84.1,r_84.2⟩:TStructure))
 (some (⟨[],[]⟩:TStructure))))
 (some (⟨[],[]⟩:TStructure))

def impl_AbstractionOf (h_:THeap):Option (TStructure) :=
 (impl_StructureOf h_).bind fun y_1 =>
 (impl_Blur y_1).bind fun y_4 =>
 some y_4

def laws_eqHeap (a_:THeap) (b_:THeap):Option (Bool) :=
 (laws_eqIntS a_.vars b_.vars).bind fun y_1 =>
 cond y_1
 ((laws_eqIntS a_.next b_.next).bind fun y_5 =>
 cond y_5
 (some true)
 (some false))
 (some false)

def laws_FnExactAbstractionOf (aH:THeap):Option (Bool) :=
 (laws_szHeap aH 1048576).bind fun y_1 =>
 cond (ltI y_1 0)
 (some true)
 ((laws_toHeap aH).bind fun y_5 =>
 (spec_AbstractionOf y_5).bind fun y_8 =>
 (laws_toHeap aH).bind fun _ =>
 (impl_AbstractionOf y_5).bind fun y_13 =>
 (laws_eqStructure y_13 y_8).bind fun y_16 =>
 cond y_16
 ((laws_toHeap aH).bind fun _ =>
 (laws_eqHeap y_5 y_5).bind fun y_22 =>
 cond y_22
 ((markO mkF_markHeap y_5 1).bind fun r_26 =>
 cond (ltI r_26.2 0)
 (some false)
 ((laws_eqStructure y_13 y_8).bind fun y_49 =>
 cond y_49
 ((markO mkF_markStructure y_13 1).bind fun r_53 =>
 (laws_heldStructure r_53.1 1).bind fun y_75 =>
 cond (ltI y_75 0)
 (some false)
 (cond (neI y_75 r_53.2)
 (some false)
 ((laws_toHeap aH).bind fun y_80 =>
 (impl_AbstractionOf y_80).bind fun y_83 =>
 (laws_eqStructure y_83 y_8).bind fun y_87 =>
 cond y_87
 ((laws_heldStructure r_53.1 1).bind fun _ =>
 some true)
 (some false))))
 (some false)))
 (some false))
 (some false))

end Go.Ev


namespace Go.Ev
open Wf (wf)
open Sm (sm lg)
theorem szIntS_ok {a:(List Int)} {left:Int} (hw:wf a) (hl:0≤left∧left≤1048576):SzOK (laws_szIntS a left) (sm a):=by
 unfold laws_szIntS
 have h:=(wf_list hw).1
 rw [subI_eq (by omega) (by omega),cond_lt]
 by_cases h:left - (a.length:Int) < 0
 ·rw [if_pos h];exact ⟨-1,rfl,by omega,by omega,by omega⟩
 ·rw [if_neg h];exact ⟨_,rfl,by omega,fun _=>⟨by omega,fun _ _=>trivial⟩,by omega⟩
theorem toIntS_ok {a:(List Int)} (h:sm a):laws_toIntS a=some a:=by
 refine toRow (fun x=>some x) (mapM_self (fun _ _=>rfl)) (sm_len h) (b:=8) (by omega) (fun i x y o hi hx hy ho=>?_) (fun o=>?_) (by unfold laws_toIntS;rfl)
 ·obtain ⟨q,hq⟩:=ho
  cases hy
  simp only [cond_lt,at_nat,hx,hq,Int.ofNat_lt,hi,if_true,Option.bind_some,Int.toNat_natCast]
 ·simp [cond_lt]
theorem eqIntS_ok {a b:(List Int)} (h:lg a):laws_eqIntS a b=some (decide (a=b)):=by
 refine eqRow (lg_le h) (fun i x y hi hx hy=>?_) ?_ (by unfold laws_eqIntS;rfl)
 ·simp only [cond_lt,cond_ne,at_nat,hx,hy,Option.bind_some,Int.ofNat_lt,hi,if_true]
  by_cases he:x=y <;> simp [he]
 ·simp [cond_lt]
theorem eqNode_ok {a b:TNode} (h:lg a):laws_eqNode a b=some (decide (a=b)):=by
 unfold laws_eqNode
 rw [eqIntS_ok h.1,eqIntS_ok h.2]
 rcases a with ⟨a0,a1,a2,a3⟩
 rcases b with ⟨b0,b1,b2,b3⟩
 simp only [Option.bind_some,zah,cond_ne,neS_dec,cond_ndec,TNode.mk.injEq]
 by_cases h0:a0=b0 <;> by_cases h1:a1=b1 <;> by_cases h2:a2=b2 <;> by_cases h3:a3=b3 <;> simp [h0,h1,h2,h3]
theorem eqNodeS_ok {a b:(List TNode)} (h:lg a):laws_eqNodeS a b=some (decide (a=b)):=by
 refine eqRow (lg_le h) (fun i x y hi hx hy=>?_) ?_ (by unfold laws_eqNodeS;rfl)
 ·simp only [cond_lt,eqNode_ok (lg_mem h hx),zah,at_nat,hx,hy,Option.bind_some,Int.ofNat_lt,hi,if_true]
  by_cases he:x=y <;> simp [he]
 ·simp [cond_lt]
theorem eqStructure_ok {a b:TStructure} (h:lg a):laws_eqStructure a b=some (decide (a=b)):=by
 unfold laws_eqStructure
 rw [eqNodeS_ok h.1,eqIntS_ok h.2]
 rcases a with ⟨a0,a1⟩
 rcases b with ⟨b0,b1⟩
 simp only [Option.bind_some,zah,cond_ne,neS_dec,cond_ndec,TStructure.mk.injEq]
 by_cases h0:a0=b0 <;> by_cases h1:a1=b1 <;> simp [h0,h1]
theorem szHeap_ok {a:THeap} {left:Int} (hw:wf a) (hl:0≤left∧left≤1048576):SzOK (laws_szHeap a left) (sm a):=(szIntS_ok hw.1 hl).two fun n0 hn0=>(szIntS_ok hw.2 hn0).last
theorem toHeap_ok {a:THeap} (h:sm a):laws_toHeap a=some a:=by
 unfold laws_toHeap
 rw [toIntS_ok h.1,toIntS_ok h.2]
 rfl
theorem eqHeap_ok {a b:THeap} (h:lg a):laws_eqHeap a b=some (decide (a=b)):=by
 unfold laws_eqHeap
 rw [eqIntS_ok h.1,eqIntS_ok h.2]
 rcases a with ⟨a0,a1⟩
 rcases b with ⟨b0,b1⟩
 simp only [Option.bind_some,zah,cond_ne,neS_dec,cond_ndec,THeap.mk.injEq]
 by_cases h0:a0=b0 <;> by_cases h1:a1=b1 <;> simp [h0,h1]
end Go.Ev


namespace Go.Ev
theorem cntE_markIntS_ok (x:Int) (k:Int) (hk:0≤k) (hb:k+cntE_markIntS x≤maxMark):(mkE_markIntS x k).2=k+cntE_markIntS x:=by
 unfold cntE_markIntS maxMark at *
 unfold mkE_markIntS
 have h0:addI k 1=k+1:=addI_eq (by omega) (by omega)
 simp only
 omega
theorem markIntS_snd (xs:List Int) (k:Int) (hk:0≤k) (hb:k+cntF_markIntS xs≤maxMark):(zac xs k).2=k+cntF_markIntS xs:=mkRow_snd cntE_markIntS_ok xs k hk hb
theorem heldIntS_ok {xs:List Int} {k0:Int} (hl:Sm.lg xs) (hk:0≤k0) (hb:k0+cntF_markIntS xs≤maxMark):laws_heldIntS (zac xs k0).1 k0=some (zac xs k0).2:=by
 unfold laws_heldIntS
 have hlg:∀ x∈xs,Sm.lg x:=hl.2
 rw [held_row (ys:=(zac xs k0).1) (E:=mkE_markIntS) (cnt:=cntE_markIntS) (xs:=xs) cntE_markIntS_ok (fun i x k hx0 hi hx hk hb=>?_) (fun k=>by simp [cond_lt]) rfl (by have:=hl.1;omega) hk hb]
 ·rfl
 ·have e0:at? (zac xs k0).1 (i:Int)=some (mkE_markIntS x k).1:=by rw [at_nat];exact hx
  unfold cntE_markIntS maxMark at hb
  have h0:addI k 1=k+1:=addI_eq (by omega) (by omega)
  have hc:ltI (i:Int) ((zac xs k0).1.length:Int)=true:=by simpa [ltI] using hi
  simp only [hc,e0,mkE_markIntS,cond_true,cond_false,Option.bind_some,neI,decide_true,Bool.not_true,]
theorem cntE_markNodeS_ok (x:TNode) (k:Int) (hk:0≤k) (hb:k+cntE_markNodeS x≤maxMark):(mkE_markNodeS x k).2=k+cntE_markNodeS x:=by
 unfold cntE_markNodeS maxMark at *
 unfold mkE_markNodeS
 have h0:=markIntS_snd x.vars k (by omega) (by unfold maxMark;omega)
 have h1:=markIntS_snd x.reach ((zac x.vars k).2) (by omega) (by unfold maxMark;omega)
 have h2:addI ((zac x.reach ((zac x.vars k).2)).2) 1=((zac x.reach ((zac x.vars k).2)).2)+1:=addI_eq (by omega) (by omega)
 have h3:addI (addI ((zac x.reach ((zac x.vars k).2)).2) 1) 1=(addI ((zac x.reach ((zac x.vars k).2)).2) 1)+1:=addI_eq (by omega) (by omega)
 simp only
 omega
theorem markNodeS_snd (xs:List TNode) (k:Int) (hk:0≤k) (hb:k+cntF_markNodeS xs≤maxMark):(zai xs k).2=k+cntF_markNodeS xs:=mkRow_snd cntE_markNodeS_ok xs k hk hb
theorem heldNodeS_ok {xs:List TNode} {k0:Int} (hl:Sm.lg xs) (hk:0≤k0) (hb:k0+cntF_markNodeS xs≤maxMark):laws_heldNodeS (zai xs k0).1 k0=some (zai xs k0).2:=by
 unfold laws_heldNodeS
 have hlg:∀ x∈xs,Sm.lg x:=hl.2
 rw [held_row (ys:=(zai xs k0).1) (E:=mkE_markNodeS) (cnt:=cntE_markNodeS) (xs:=xs) cntE_markNodeS_ok (fun i x k hx0 hi hx hk hb=>?_) (fun k=>by simp [cond_lt]) rfl (by have:=hl.1;omega) hk hb]
 ·rfl
 ·have e0:at? (zai xs k0).1 (i:Int)=some (mkE_markNodeS x k).1:=by rw [at_nat];exact hx
  unfold cntE_markNodeS maxMark at hb
  have h0:=markIntS_snd x.vars k (by omega) (by unfold maxMark;omega)
  have w0:=heldIntS_ok (xs:=x.vars) (k0:=k) (hl.2 x hx0).1 (by omega) (by unfold maxMark;omega)
  have n0:ltI (zac x.vars k).2 0=false:=by simp only [ltI,decide_eq_false_iff_not];omega
  have h1:=markIntS_snd x.reach ((zac x.vars k).2) (by omega) (by unfold maxMark;omega)
  have w1:=heldIntS_ok (xs:=x.reach) (k0:=(zac x.vars k).2) (hl.2 x hx0).2 (by omega) (by unfold maxMark;omega)
  have n1:ltI (zac x.reach ((zac x.vars k).2)).2 0=false:=by simp only [ltI,decide_eq_false_iff_not];omega
  have h2:addI ((zac x.reach ((zac x.vars k).2)).2) 1=((zac x.reach ((zac x.vars k).2)).2)+1:=addI_eq (by omega) (by omega)
  have h3:addI (addI ((zac x.reach ((zac x.vars k).2)).2) 1) 1=(addI ((zac x.reach ((zac x.vars k).2)).2) 1)+1:=addI_eq (by omega) (by omega)
  have hc:ltI (i:Int) ((zai xs k0).1.length:Int)=true:=by simpa [ltI] using hi
  simp only [hc,e0,mkE_markNodeS,cond_true,cond_false,Option.bind_some,neI,decide_true,Bool.not_true,w0,n0,w1,n1]
theorem markStructure_snd (x:TStructure) (k:Int) (hk:0≤k) (hb:k+cntF_markStructure x≤maxMark):(mkF_markStructure x k).2=k+cntF_markStructure x:=by
 unfold cntF_markStructure maxMark at *
 unfold mkF_markStructure
 have h0:=markNodeS_snd x.nodes k (by omega) (by unfold maxMark;omega)
 have h1:=markIntS_snd x.next ((zai x.nodes k).2) (by omega) (by unfold maxMark;omega)
 simp only
 omega
theorem heldStructure_ok {x:TStructure} {k:Int} (hl:Sm.lg x) (hk:0≤k) (hb:k+cntF_markStructure x≤maxMark):laws_heldStructure (mkF_markStructure x k).1 k=some (mkF_markStructure x k).2:=by
 unfold cntF_markStructure maxMark at hb
 unfold laws_heldStructure mkF_markStructure
 have h0:=markNodeS_snd x.nodes k (by omega) (by unfold maxMark;omega)
 have w0:=heldNodeS_ok (xs:=x.nodes) (k0:=k) hl.1 (by omega) (by unfold maxMark;omega)
 have n0:ltI (zai x.nodes k).2 0=false:=by simp only [ltI,decide_eq_false_iff_not];omega
 have h1:=markIntS_snd x.next ((zai x.nodes k).2) (by omega) (by unfold maxMark;omega)
 have w1:=heldIntS_ok (xs:=x.next) (k0:=(zai x.nodes k).2) hl.2 (by omega) (by unfold maxMark;omega)
 have n1:ltI (zac x.next ((zai x.nodes k).2)).2 0=false:=by simp only [ltI,decide_eq_false_iff_not];omega
 simp only [cond_false,Option.bind_some,w0,n0,w1,n1]
theorem markHeap_snd (x:THeap) (k:Int) (hk:0≤k) (hb:k+cntF_markHeap x≤maxMark):(mkF_markHeap x k).2=k+cntF_markHeap x:=by
 unfold cntF_markHeap maxMark at *
 unfold mkF_markHeap
 have h0:=markIntS_snd x.vars k (by omega) (by unfold maxMark;omega)
 have h1:=markIntS_snd x.next ((zac x.vars k).2) (by omega) (by unfold maxMark;omega)
 simp only
 omega
end Go.Ev

