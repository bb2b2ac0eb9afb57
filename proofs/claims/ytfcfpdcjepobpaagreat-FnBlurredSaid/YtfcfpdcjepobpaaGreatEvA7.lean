import Derived.Test.YtfcfpdcjepobpaaGreatEvA6
import Derived.KernelRfl
import Derived.IntWalk
set_option linter.unusedSimpArgs false
set_option linter.unusedVariables false
set_option linter.unnecessarySimpa false
noncomputable section
namespace Go.Ev


class Enc (α:Type) where
 sz:Nat
 agg:Bool
 enc:α→List D
 len:∀ x,(enc x).length=sz
 pos:0 < sz
 one:agg=false→sz=1
 inj:∀ x y,enc x=enc y→x=y

open Enc (enc)

def encL {α:Type} [Enc α] (xs:List α):List D:=xs.flatMap Enc.enc
@[simp] theorem encL_nil {α:Type} [Enc α]:encL ([]:List α)=[]:=rfl
@[simp] theorem zbj {α:Type} [Enc α] (x:α) (xs:List α):encL (x :: xs)=enc x ++ encL xs:=rfl
@[simp] theorem encL_append {α:Type} [Enc α] (xs ys:List α):encL (xs ++ ys)=encL xs ++ encL ys:=by simp [encL]
@[simp] theorem zeu {α:Type} [Enc α] (xs:List α):(encL xs).length=xs.length * Enc.sz α:=by
 induction xs with
 | nil=>simp
 | cons x xs ih=>rw [zbj,List.length_append,ih,Enc.len,List.length_cons,Nat.add_mul,Nat.one_mul,Nat.add_comm]

theorem encL_inj {α:Type} [Enc α]:∀ {xs ys:List α},encL xs=encL ys→xs=ys
 | [],[],_=>rfl
 | [],y :: ys,h=>by
  have:=congrArg List.length h
  rw [zeu,zeu] at this
  have hp:=Enc.pos (α:=α)
  simp only [List.length_nil,Nat.zero_mul,List.length_cons,Nat.add_mul,Nat.one_mul] at this
  omega
 | x :: xs,[],h=>by
  have:=congrArg List.length h
  rw [zeu,zeu] at this
  have hp:=Enc.pos (α:=α)
  simp only [List.length_nil,Nat.zero_mul,List.length_cons,Nat.add_mul,Nat.one_mul] at this
  omega
 | x :: xs,y :: ys,h=>by
  rw [zbj,zbj] at h
  have hl:(enc x).length=(enc y).length:=by rw [Enc.len,Enc.len]
  obtain ⟨h1,h2⟩:=List.append_inj h hl
  rw [Enc.inj _ _ h1,encL_inj h2]

instance:Enc Int where
 sz:=1
 agg:=false
 enc n:=[.sc (.int .i64 n)]
 len _:=rfl
 pos:=Nat.one_pos
 one _:=rfl
 inj x y h:=by simpa using h
instance:Enc Bool where
 sz:=1
 agg:=false
 enc n:=[.sc (.bool n)]
 len _:=rfl
 pos:=Nat.one_pos
 one _:=rfl
 inj x y h:=by simpa using h
instance:Enc ByteArray where
 sz:=1
 agg:=false
 enc n:=[.sc (.string n)]
 len _:=rfl
 pos:=Nat.one_pos
 one _:=rfl
 inj x y h:=by simpa using h
instance {α:Type} [Enc α]:Enc (List α) where
 sz:=1
 agg:=false
 enc xs:=[.sl xs.length (encL xs)]
 len _:=rfl
 pos:=Nat.one_pos
 one _:=rfl
 inj x y h:=by
  simp only [List.cons.injEq,D.sl.injEq,and_true] at h
  exact encL_inj h.2
@[simp] theorem enc_int (n:Int):enc n=[.sc (.int .i64 n)]:=rfl
@[simp] theorem enc_bool (n:Bool):enc n=[.sc (.bool n)]:=rfl
@[simp] theorem enc_str (n:ByteArray):enc n=[.sc (.string n)]:=rfl
@[simp] theorem enc_list {α:Type} [Enc α] (xs:List α):enc xs=[.sl xs.length (encL xs)]:=rfl
@[simp] theorem sz_int:Enc.sz Int=1:=rfl
@[simp] theorem sz_bool:Enc.sz Bool=1:=rfl
@[simp] theorem sz_str:Enc.sz ByteArray=1:=rfl
@[simp] theorem sz_list {α:Type} [Enc α]:Enc.sz (List α)=1:=rfl
@[simp] theorem agg_int:Enc.agg Int=false:=rfl
@[simp] theorem agg_bool:Enc.agg Bool=false:=rfl
@[simp] theorem agg_str:Enc.agg ByteArray=false:=rfl
@[simp] theorem agg_list {α:Type} [Enc α]:Enc.agg (List α)=false:=rfl

def avC (agg:Bool) (cs:List C):AV:=match agg,cs with
 | true,cs=>.ag cs
 | false,[c]=>.one c
 | false,_=>.dead
@[simp] theorem zqu (cs:List C):avC true cs=.ag cs:=rfl
@[simp] theorem avC_false (c:C):avC false [c]=.one c:=rfl

def av {α:Type} [Enc α] (m:Md) (x:α):AV:=avC (Enc.agg α) ((enc x).map (C.ofD m))

theorem ofD_inj {m:Md}:∀ {x y:D},C.ofD m x=C.ofD m y→x=y
 | .sc a,.sc b,h=>by cases h;rfl
 | .sl n cs,.sl k ds,h=>by cases h;rfl
 | .sc a,.sl k ds,h=>by cases h
 | .sl k ds,.sc a,h=>by cases h
theorem zlm {m:Md}:∀ {x y:List D},x.map (C.ofD m)=y.map (C.ofD m)→x=y
 | [],[],_=>rfl
 | [],_ :: _,h=>by cases h
 | _ :: _,[],h=>by cases h
 | x :: xs,y :: ys,h=>by
  simp only [List.map_cons,List.cons.injEq] at h
  rw [ofD_inj h.1,zlm h.2]
theorem av_inj {α:Type} [Enc α] {m:Md} {x y:α} (h:av m x=av m y):x=y:=by
 unfold av at h
 cases ha:Enc.agg α with
 | true =>
  rw [ha] at h
  simp only [zqu,AV.ag.injEq] at h
  exact Enc.inj _ _ (zlm h)
 | false =>
  have h1:=Enc.one (α:=α) ha
  rw [ha] at h
  have hx:(enc x).length=1:=by rw [Enc.len,h1]
  have hy:(enc y).length=1:=by rw [Enc.len,h1]
  match hx':enc x,hy':enc y,hx,hy with
  | [a],[b],_,_ =>
   rw [hx',hy'] at h
   simp only [List.map_cons,List.map_nil,avC_false,AV.one.injEq] at h
   exact Enc.inj _ _ (by rw [hx',hy',ofD_inj h])

class Args (X:Type) where
 args:X→List AV
 inj:∀ x y,args x=args y→x=y
instance:Args Unit where
 args _:=[]
 inj _ _ _:=rfl
instance {α β:Type} [Enc α] [Args β]:Args (α × β) where
 args x:=av .shr x.1 :: Args.args x.2
 inj x y h:=by
  simp only [List.cons.injEq] at h
  exact Prod.ext (av_inj h.1) (Args.inj _ _ h.2)

theorem own_ofD:∀ (d:D),(C.ofD .own d).own?=true
 | .sc _=>rfl
 | .sl _ _=>rfl
theorem all_own (l:List D):(l.map (C.ofD .own)).all C.own?=true:=by
 rw [List.all_eq_true]
 intro c hc
 obtain ⟨d,_,rfl⟩:=List.mem_map.1 hc
 exact own_ofD d
class Res (R:Type) where
 res:R→AV
 own:∀ x,(res x).own?=true
def tup {α:Type} [Enc α] (x:α):Bool × List C:=(Enc.agg α,(enc x).map (C.ofD .own))
theorem zpw {α:Type} [Enc α] (h:Enc.agg α=false) (x:α):∃ d,enc x=[d]:=by
 have h1:=Enc.len x
 rw [Enc.one h] at h1
 exact List.length_eq_one_iff.1 h1
instance {α:Type} [Enc α]:Res α where
 res x:=av .own x
 own x:=by
  unfold av
  cases ha:Enc.agg α with
  | true=>exact all_own _
  | false =>
   obtain ⟨d,hd⟩:=zpw ha x
   rw [hd]
   exact own_ofD d
instance {α β:Type} [Enc α] [Enc β]:Res (α × β) where
 res x:=.tu [tup x.1,tup x.2]
 own x:=by simp only [AV.own?,tup,List.all_cons,List.all_nil,all_own,Bool.and_true]
instance {α β γ:Type} [Enc α] [Enc β] [Enc γ]:Res (α × β × γ) where
 res x:=.tu [tup x.1,tup x.2.1,tup x.2.2]
 own x:=by simp only [AV.own?,tup,List.all_cons,List.all_nil,all_own,Bool.and_true]
theorem lend_ofD (m:Md):∀ (d:D),(C.ofD m d).lend=some (C.ofD .shr d)
 | .sc _=>rfl
 | .sl _ _=>rfl
theorem mapM_lend (m:Md):∀ (l:List D),(l.map (C.ofD m)).mapM C.lend=some (l.map (C.ofD .shr))
 | []=>rfl
 | d :: l=>by rw [List.map_cons,List.mapM_cons,lend_ofD,mapM_lend m l];rfl
theorem av_lend {α:Type} [Enc α] (m:Md) (x:α):(av m x).lend=some (av .shr x):=by
 unfold av
 cases ha:Enc.agg α with
 | true=>simp only [zqu,AV.lend,mapM_lend];rfl
 | false =>
  obtain ⟨d,hd⟩:=zpw ha x
  rw [hd]
  simp only [List.map_cons,List.map_nil,avC_false,AV.lend,lend_ofD]
  rfl
@[simp] theorem res_one {α:Type} [Enc α] (x:α):Res.res x=av .own x:=rfl
@[simp] theorem res_two {α β:Type} [Enc α] [Enc β] (x:α × β):Res.res x=.tu [tup x.1,tup x.2]:=rfl
@[simp] theorem res_three {α β γ:Type} [Enc α] [Enc β] [Enc γ] (x:α × β × γ):Res.res x=.tu [tup x.1,tup x.2.1,tup x.2.2]:=rfl

open Classical in
def specP {X R:Type} [Args X] [Res R] (F:X→Option R):List AV→Option AV:=fun az_=>if h:∃ x,Args.args x=az_ then (F (Classical.choose h)).map Res.res else none

theorem zah {X R:Type} [Args X] [Res R] {F:X→Option R} {x:X} {y:R} (h:F x=some y):specP F (Args.args x)=some (Res.res y):=by
 unfold specP
 have hx:∃ z,Args.args z=Args.args x:=⟨x,rfl⟩
 rw [dif_pos hx,Args.inj _ _ (Classical.choose_spec hx),h]
 rfl

theorem pc_of {g:Cfg} {X R:Type} [Args X] [Res R] {F:X→Option R} {f:Nat} (hctx:CtxOK g) (hE:Enters g.P f) (h:∀ x y,F x=some y→∃ m,callo g 0 f (Args.args x) mem0=some (Res.res y,m)):PC g.P f (specP F):=by
 refine PC.of_ev hctx hE fun az_ r hr=>?_
 unfold specP at hr
 split at hr
 ·rename_i hx
  obtain ⟨y,hy,rfl⟩:=Option.map_eq_some_iff.1 hr
  have:=h _ _ hy
  rwa [Classical.choose_spec hx] at this
 ·cases hr

@[reducible] def AllPC (P:Program):List (Nat × (List AV→Option AV))→Prop
 | []=>True
 | x :: r=>PC P x.1 x.2∧AllPC P r
theorem zag {g:Cfg} (l:List (Nat × (List AV→Option AV))) (hl:g.ctx=l) (h:AllPC g.P l) (ho:g.octx=[]:=by rfl) (hbc:g.bctx=[]:=by rfl) (hpx:g.pctx=[]:=by rfl):CtxOK g:=by
 refine ⟨fun f F hf=>?_,fun f F hf=>(by rw [ho] at hf;cases hf),fun f F hf=>(by rw [hbc] at hf;cases hf),fun f F hf=>(by rw [hpx] at hf;cases hf)⟩
 rw [hl] at hf
 clear hl
 induction l with
 | nil=>cases hf
 | cons x r ih =>
  simp only [lookN] at hf
  split at hf
  ·rename_i he
   cases hf
   exact he ▸ h.1
  ·exact ih h.2 hf

def iterN {σ ρ:Type} (step:σ→Option (σ ⊕ ρ)):Nat→σ→Option ρ
 | 0,_=>none
 | n+1,s=>match step s with
  | some (.inl s')=>iterN step n s'
  | some (.inr r)=>some r
  | none=>none
def iter {σ ρ:Type} (step:σ→Option (σ ⊕ ρ)) (s:σ):Option ρ:=lim fun n=>iterN step n s

theorem zov {σ ρ:Type} (step:σ→Option (σ ⊕ ρ)):∀ (n:Nat) (s:σ),Le (iterN step n s) (iterN step (n+1) s)
 | 0,s=>Le.none _
 | n+1,s=>by
  rw [iterN,iterN]
  cases step s with
  | none=>exact Le.refl _
  | some x =>
   cases x with
   | inl s'=>exact zov step n s'
   | inr r=>exact Le.refl _
theorem iter_some {σ ρ:Type} {step:σ→Option (σ ⊕ ρ)} {s:σ} {r:ρ}:iter step s=some r ↔ ∃ n,iterN step n s=some r:=zez (fun n=>zov step n s) r
theorem zjd {σ ρ:Type} {step:σ→Option (σ ⊕ ρ)} {s s':σ} (h:step s=some (.inl s')):iter step s=iter step s':=by
 have key:∀ r,iter step s=some r ↔ iter step s'=some r:=by
  intro r
  rw [iter_some,iter_some]
  constructor
  ·rintro ⟨n,hn⟩
   cases n with
   | zero=>cases hn
   | succ n=>rw [iterN,h] at hn;exact ⟨n,hn⟩
  ·rintro ⟨n,hn⟩
   exact ⟨n+1,by rw [iterN,h];exact hn⟩
 cases h1:iter step s with
 | some r=>rw [(key r).1 h1]
 | none =>
  cases h2:iter step s' with
  | some r=>rw [(key r).2 h2] at h1;cases h1
  | none=>rfl
theorem zfa {σ ρ:Type} {step:σ→Option (σ ⊕ ρ)} {s:σ} {r:ρ} (h:step s=some (.inr r)):iter step s=some r :=
 iter_some.2 ⟨1,by rw [iterN,h]⟩

def Goal (T:Option Out→Prop) (o:Option Out):Prop:=T o

def FnEnd (P:Program) (d:Nat) (l:List ResultVar) (gl:List Gho) (r:AV) (o:Option Out):Prop:=∃ m,finK P d l gl o=some (r,m)

theorem start_fn {g:Cfg} {P:Program} {f:Nat} {args:List AV} {mem:Mem} {d:Nat} {fn:Func} {r:AV} (c:Code) (l:List ResultVar) (h0:lookN f g.ctx=none) (hP:g.P=P) (h1:P.funcs[f]?=some fn) (h2:fn.body=some c) (h3:fnOK g f fn=true)
 (h4:args.length≤fn.ntmps) (h5:fn.results.toList=l) (h:Goal (FnEnd P d l ((lookK (f,atEnd) g.gho).getD []) r) (evk g (d+1) f c [] { env:=fun t=>(args[t]?).getD .dead,mem })):∃ m,callo g d f args mem=some (r,m):=by
 rw [zkw l h0 hP h1 h2 h3 h4 h5]
 exact h

def RoundP {ι ρ:Type} (d:Nat) (k:Kp) (Inv:ι→St→Prop) (X:ρ→Out→Prop):ι ⊕ ρ→Option Out→Prop
 | .inl s',some (.norm σ')=>Inv s' (restrict d σ' (k.hd,k.bx))
 | .inr r,some (.exit id σ')=>X r (.exit id (restrict d σ' (k.ex,k.bx)))
 | .inr r,some (.ret σ')=>X r (.ret (restrict d σ' (k.rt,k.bx)))
 | _,_=>False

theorem loopP {ι ρ:Type} {g:Cfg} {d f:Nat} {T:Option Out→Prop} {c:Code} {K:List It} {σ:St} {step:ι→Option (ι ⊕ ρ)} {s0:ι} {r:ρ} (k:Kp) (Inv:ι→St→Prop) (X:ρ→Out→Prop)
 (hr:iter step s0=some r) (hk:lookK (f,rid c) g.keep=some k) (h0:Inv s0 (restrict d σ (k.hd,k.bx)))
 (round:∀ s σ a,Inv s σ→step s=some a→Goal (RoundP d k Inv X a) (evk g d f c [] σ)) (after:∀ out,X r out→Goal T (runK g d f K out)):Goal T (evk g d f (.loop c) K σ):=by
 obtain ⟨n,hn⟩:=iter_some.1 hr
 have key:∀ n s σ,Inv s (restrict d σ (k.hd,k.bx))→iterN step n s=some r→∃ out,X r out∧evo g d f (.loop c) σ=some out:=by
  intro n
  induction n with
  | zero=>intro s σ _ h;cases h
  | succ n ih =>
   intro s σ hI h
   rw [iterN] at h
   cases hs:step s with
   | none=>rw [hs] at h;cases h
   | some a =>
    have hr:=round s _ a hI hs
    rw [← zqp] at hr
    rw [evo_loop,hk]
    simp only [Option.bind_some]
    unfold Goal at hr
    cases ho:evo g d f c (restrict d σ (k.hd,k.bx)) with
    | none=>rw [ho] at hr;cases a <;> exact hr.elim
    | some o =>
     rw [ho] at hr
     simp only [Option.bind_some]
     rw [hs] at h
     cases a with
     | inl s' =>
      cases o with
      | norm σ'=>exact ih s' σ' hr h
      | exit id σ'=>exact hr.elim
      | ret σ'=>exact hr.elim
     | inr r' =>
      obtain rfl:r'=r:=by simpa using h
      cases o with
      | norm σ'=>exact hr.elim
      | exit id σ'=>exact ⟨_,hr,rfl⟩
      | ret σ'=>exact ⟨_,hr,rfl⟩
 obtain ⟨out,hX,he⟩:=key n s0 σ h0 hn
 unfold evk
 rw [he]
 exact after out hX

def NoBox (L:List Key) (m:Mem):Prop:=∀ k,k ∉ L→m k=none

def addI (a b:Int):Int:=IntKind.i64.wrap (a+b)
def subI (a b:Int):Int:=IntKind.i64.wrap (a - b)
def mulI (a b:Int):Int:=IntKind.i64.wrap (a * b)
def ltI (a b:Int):Bool:=decide (a < b)
def leI (a b:Int):Bool:=decide (a≤b)
def eqI (a b:Int):Bool:=decide (a=b)
def neI (a b:Int):Bool:=!decide (a=b)
def eqS (a b:ByteArray):Bool:=a.toList == b.toList
def neS (a b:ByteArray):Bool:=!(a.toList == b.toList)
def notB (a:Bool):Bool:=!a
@[simp] theorem notB_t:notB true=false:=rfl
@[simp] theorem notB_f:notB false=true:=rfl
def lenL {α:Type} (xs:List α):Int:=xs.length
section
variable (P:Program) (t:TypeId) (x y:Operand) (a b:Int)
@[simp] theorem tb_add:binAV P .add t x y (vI a) (vI b)=some (.int .i64 (addI a b)):=bin_add ..
@[simp] theorem tb_sub:binAV P .sub t x y (vI a) (vI b)=some (.int .i64 (subI a b)):=bin_sub ..
@[simp] theorem tb_mul:binAV P .mul t x y (vI a) (vI b)=some (.int .i64 (mulI a b)):=bin_mul ..
@[simp] theorem tb_eql:binAV P .eql t x y (vI a) (vI b)=some (.bool (eqI a b)):=bin_eql ..
@[simp] theorem tb_neq:binAV P .neq t x y (vI a) (vI b)=some (.bool (neI a b)):=bin_neq ..
@[simp] theorem tb_lss:binAV P .lss t x y (vI a) (vI b)=some (.bool (ltI a b)):=bin_lss ..
@[simp] theorem tb_leq:binAV P .leq t x y (vI a) (vI b)=some (.bool (leI a b)):=bin_leq ..
@[simp] theorem tb_gtr:binAV P .gtr t x y (vI a) (vI b)=some (.bool (ltI b a)):=bin_gtr ..
@[simp] theorem tb_geq:binAV P .geq t x y (vI a) (vI b)=some (.bool (leI b a)):=bin_geq ..
@[simp] theorem tu_not (c:Bool):unAV P .not (vB c)=some (.bool (notB c)):=un_not ..
end
section
variable (P:Program) (t:TypeId) (x y:Operand) (a b:ByteArray)
@[simp] theorem tb_eqlS:binAV P .eql t x y (vS a) (vS b)=some (.bool (eqS a b)):=bin_eqlS ..
@[simp] theorem tb_neqS:binAV P .neq t x y (vS a) (vS b)=some (.bool (neS a b)):=bin_neqS ..
end

def eqB (a b:Bool):Bool:=a == b
def neB (a b:Bool):Bool:=!(a == b)
@[simp] theorem condK_t (g:Cfg) (d f:Nat) (a b:Code) (K:List It) (σ:St):condK g d f (.one (.s (.bool true))) a b K σ=evk g d f a K σ:=rfl
@[simp] theorem condK_f (g:Cfg) (d f:Nat) (a b:Code) (K:List It) (σ:St):condK g d f (.one (.s (.bool false))) a b K σ=evk g d f b K σ:=rfl

def at? {α:Type} (xs:List α) (n:Int):Option α:=if 0≤n then xs[n.toNat]? else none
theorem at_lo {α:Type} {xs:List α} {n:Int} {x:α} (h:at? xs n=some x):0≤n:=by
 unfold at? at h;split at h
 ·assumption
 ·cases h
theorem at_hi {α:Type} {xs:List α} {n:Int} {x:α} (h:at? xs n=some x):n < (xs.length:Int):=by
 have h0:=at_lo h
 unfold at? at h
 rw [if_pos h0] at h
 obtain ⟨h1,_⟩:=List.getElem?_eq_some_iff.1 h
 omega

theorem seg_encL {α:Type} [Enc α]:∀ (xs:List α) (i off m:Nat) (x:α),xs[i]?=some x→off+m≤Enc.sz α→seg (encL xs) (i * Enc.sz α+off) m=seg (enc x) off m
 | [],i,off,m,x,h,_=>by simp at h
 | y :: ys,0,off,m,x,h,hm=>by
  simp only [List.getElem?_cons_zero,Option.some.injEq] at h
  subst h
  unfold seg
  have hl:=Enc.len y
  rw [zbj,Nat.zero_mul,Nat.zero_add,if_pos (by rw [List.length_append,hl];omega),if_pos (by rw [hl];exact hm)]
  congr 1
  rw [List.drop_append,List.take_append]
  have:m - (List.drop off (enc y)).length=0:=by rw [List.length_drop,hl];omega
  rw [this]
  simp
 | y :: ys,i+1,off,m,x,h,hm=>by
  have ih:=seg_encL ys i off m x (by simpa using h) hm
  rw [← ih]
  unfold seg
  have hl:=Enc.len y
  have e:(i+1) * Enc.sz α+off=(enc y).length+(i * Enc.sz α+off):=by rw [hl,Nat.add_mul,Nat.one_mul];omega
  rw [zbj,List.length_append,e,← List.drop_drop,List.drop_left]
  by_cases hc:i * Enc.sz α+off+m≤(encL ys).length
  ·rw [if_pos (by omega),if_pos hc]
  ·rw [if_neg (by omega),if_neg hc]

theorem seg_at {α:Type} [Enc α] {xs:List α} {n:Int} {x:α} (h:at? xs n=some x) (off m:Nat) (hm:off+m≤Enc.sz α):seg (encL xs) (n.toNat * Enc.sz α+off) m=seg (enc x) off m:=by
 have h0:=at_lo h
 unfold at? at h
 rw [if_pos h0] at h
 exact seg_encL xs _ off m x h hm

def slc {α:Type} (xs:List α) (lo hi:Int):Option (List α):=if 0≤lo∧lo≤hi∧hi≤xs.length then some ((xs.drop lo.toNat).take (hi - lo).toNat) else none
theorem slc_is {α:Type} {xs z:List α} {lo hi:Int} (h:slc xs lo hi=some z):(0≤lo∧lo≤hi∧hi≤xs.length)∧z=(xs.drop lo.toNat).take (hi - lo).toNat:=by
 unfold slc at h;split at h
 ·rename_i hh;exact ⟨hh,by simpa using h.symm⟩
 ·cases h
theorem slc_1 {α:Type} {xs z:List α} {lo hi:Int} (h:slc xs lo hi=some z):lo≤hi:=(slc_is h).1.2.1
theorem slc_2 {α:Type} {xs z:List α} {lo hi:Int} (h:slc xs lo hi=some z):hi≤xs.length:=(slc_is h).1.2.2
theorem slc_3 {α:Type} {xs z:List α} {lo hi:Int} (h:slc xs lo hi=some z):(hi - lo).toNat=z.length:=by
 obtain ⟨⟨h0,h1,h2⟩,rfl⟩:=slc_is h
 rw [List.length_take,List.length_drop]
 omega
theorem encL_drop {α:Type} [Enc α]:∀ (xs:List α) (n:Nat),encL (xs.drop n)=(encL xs).drop (n * Enc.sz α)
 | xs,0=>by simp
 | [],n+1=>by simp
 | x :: xs,n+1=>by
  rw [List.drop_succ_cons,encL_drop xs n,zbj]
  have e:(n+1) * Enc.sz α=(enc x).length+n * Enc.sz α:=by rw [Enc.len,Nat.add_mul,Nat.one_mul,Nat.add_comm]
  rw [e,← List.drop_drop,List.drop_left]
theorem encL_take {α:Type} [Enc α]:∀ (xs:List α) (n:Nat),encL (xs.take n)=(encL xs).take (n * Enc.sz α)
 | xs,0=>by simp
 | [],n+1=>by simp
 | x :: xs,n+1=>by
  rw [List.take_succ_cons,zbj,encL_take xs n,zbj]
  have e:(n+1) * Enc.sz α=(enc x).length+n * Enc.sz α:=by rw [Enc.len,Nat.add_mul,Nat.one_mul,Nat.add_comm]
  rw [e,List.take_length_add_append]
theorem slc_4 {α:Type} [Enc α] {xs z:List α} {lo hi:Int} (h:slc xs lo hi=some z):((encL xs).drop (lo.toNat * Enc.sz α)).take ((hi - lo).toNat * Enc.sz α)=encL z:=by
 obtain ⟨⟨h0,h1,h2⟩,rfl⟩:=slc_is h
 rw [encL_take,encL_drop]

def fixN {X R:Type} (B:(X→Option R)→X→Option R):Nat→X→Option R
 | 0,_=>none
 | n+1,x=>B (fixN B n) x
open Classical in
def fixO {X R:Type} (B:(X→Option R)→X→Option R) (x:X):Option R:=if h:∃ n r,fixN B n x=some r then fixN B (Classical.choose h) x else none
theorem fixO_some {X R:Type} {B:(X→Option R)→X→Option R} {x:X} {r:R} (h:fixO B x=some r):∃ n,fixN B n x=some r:=by
 unfold fixO at h
 split at h
 ·exact ⟨_,h⟩
 ·cases h
theorem fixN_mono {X R:Type} {B:(X→Option R)→X→Option R} (hB:∀ f g:X→Option R,(∀ x,Le (f x) (g x))→∀ x,Le (B f x) (B g x)):∀ n x,Le (fixN B n x) (fixN B (n+1) x)
 | 0,x=>Le.none _
 | n+1,x=>hB _ _ (fixN_mono hB n) x
theorem fixN_le {X R:Type} {B:(X→Option R)→X→Option R} (hB:∀ f g:X→Option R,(∀ x,Le (f x) (g x))→∀ x,Le (B f x) (B g x)) {m n:Nat} (h:m≤n) (x:X):Le (fixN B m x) (fixN B n x):=by
 induction h with
 | refl=>exact Le.refl _
 | step _ ih=>exact fun r hr=>fixN_mono hB _ x r (ih r hr)
theorem fixO_of {X R:Type} {B:(X→Option R)→X→Option R} (hB:∀ f g:X→Option R,(∀ x,Le (f x) (g x))→∀ x,Le (B f x) (B g x)) {n:Nat} {x:X} {r:R} (h:fixN B n x=some r):fixO B x=some r:=by
 have hex:∃ n r,fixN B n x=some r:=⟨n,r,h⟩
 unfold fixO
 rw [dif_pos hex]
 obtain ⟨r',hr'⟩:=Classical.choose_spec hex
 rcases Nat.le_total n (Classical.choose hex) with hle | hle
 ·exact fixN_le hB hle x r h
 ·have:=fixN_le hB hle x r' hr'
  rw [h] at this
  rw [hr',← this]
theorem Le.cond {α:Type} {b:Bool} {x y x' y':Option α} (h1:Le x x') (h2:Le y y'):Le (cond b x y) (cond b x' y'):=by cases b <;> assumption
theorem Le.iter {σ ρ:Type} {s1 s2:σ→Option (σ ⊕ ρ)} (h:∀ s,Le (s1 s) (s2 s)) (s:σ):Le (iter s1 s) (iter s2 s):=by
 intro r hr
 obtain ⟨n,hn⟩:=iter_some.1 hr
 refine iter_some.2 ⟨n,?_⟩
 clear hr
 induction n generalizing s with
 | zero=>cases hn
 | succ n ih =>
  rw [iterN] at hn ⊢
  cases hs:s1 s with
  | none=>rw [hs] at hn;cases hn
  | some a =>
   rw [hs] at hn
   rw [h s a hs]
   cases a with
   | inl s'=>exact ih s' hn
   | inr r'=>exact hn
theorem Le.elim {α β ρ:Type} {r:α ⊕ β} {f f':α→Option ρ} {g g':β→Option ρ} (h1:∀ a,Le (f a) (f' a)) (h2:∀ b,Le (g b) (g' b)):Le (Sum.elim f g r) (Sum.elim f' g' r):=by
 cases r
 ·exact h1 _
 ·exact h2 _

def room (n:Nat) (b:Nat):Option Unit:=if n * (b+1)≤maxBytes then some () else none
theorem zbc {n:Nat} {b:Nat} {u:Unit} (h:room n b=some u):n * (b+1)≤maxBytes:=by
 unfold room at h;split at h
 ·assumption
 ·cases h

theorem zaa {α β:Type} {x:Option α} {f:α→Option β} {b:β} (h:x.bind f=some b):∃ a,x=some a∧f a=some b:=Option.bind_eq_some_iff.1 h

theorem zad {α:Type} {b:Bool} {x y:Option α} {a:α} (h:cond b x y=some a):(b=true∧x=some a)∨(b=false∧y=some a):=by
 cases b
 ·exact .inr ⟨rfl,h⟩
 ·exact .inl ⟨rfl,h⟩

theorem zaf {ι ρ:Type} {d:Nat} {k:Kp} {Inv:ι→St→Prop} {X:ρ→Out→Prop} {s':ι} {σ':St} (h:Inv s' (restrict d σ' (k.hd,k.bx))):Goal (RoundP d k Inv X (.inl s')) (some (.norm σ')):=h
theorem zai {ι ρ:Type} {d:Nat} {k:Kp} {Inv:ι→St→Prop} {X:ρ→Out→Prop} {r:ρ} {id:Nat} {σ':St} (h:X r (.exit id (restrict d σ' (k.ex,k.bx)))):Goal (RoundP d k Inv X (.inr r)) (some (.exit id σ')):=h
theorem zaq {ι ρ:Type} {d:Nat} {k:Kp} {Inv:ι→St→Prop} {X:ρ→Out→Prop} {r:ρ} {σ':St} (h:X r (.ret (restrict d σ' (k.rt,k.bx)))):Goal (RoundP d k Inv X (.inr r)) (some (.ret σ')):=h

theorem zac (d:Nat) (σ:St) (ts bs:List Nat) (t:Nat):(restrict d σ (ts,bs)).env t=if t∈ts then (σ.env t).kill (fun x=>x.1 == d && bs.contains x.2) else .dead:=rfl
@[simp] theorem restrict_mem_nil (d:Nat) (σ:St) (ts:List Nat):(restrict d σ (ts,[])).mem=σ.mem:=by
 rw [restrict_nil]
theorem zab (d:Nat) (σ:St) (ts bs:List Nat) (k:Key):(restrict d σ (ts,bs)).mem k=if (k.1 == d && bs.contains k.2)=true then none else (σ.mem k).map (List.map (C.kill fun x=>x.1 == d && bs.contains x.2)):=rfl
@[simp] theorem mem0_get (k:Key):mem0 k=none:=rfl
@[simp] theorem kill_s (p:Key→Bool) (v:Value):(C.s v).kill p=.s v:=rfl
@[simp] theorem kill_l (p:Key→Bool) (m:Md) (n:Nat) (cs:List D):(C.l m n cs).kill p=.l m n cs:=rfl

theorem seg_at' {α:Type} [Enc α] {xs:List α} {n:Int} {x:α} (h:at? xs n=some x) (off m:Nat) (hm:off+m≤Enc.sz α) {ds:List D} (hd:seg (enc x) off m=some ds):seg (encL xs) (n.toNat * Enc.sz α+off) m=some ds:=by
 rw [seg_at h off m hm,hd]

def lenSV (P:Program) (t:TypeId) (v:AV):Option Value :=
 if (sclr v).isSome then
  match pureOf P (Builtin.len_ #[t] 0 #[(sclr v).getD undef]) with
  | some v=>if scal v then some v else none
  | none=>none
 else none
def lenAV2 (P:Program) (t:TypeId):AV→Option Value
 | .one (.l _ n _)=>(ti P t).bind fun i=>i.elem.bind fun _=>some (.int .i64 n)
 | .one (.bs _ n _)=>(ti P t).bind fun i=>i.elem.bind fun _=>some (.int .i64 n)
 | v=>lenSV P t v
theorem zok (P:Program) (σ:St) (dst:Option Nat) (pos:String) (after:Array Edge) (ty:TypeId) (guard:Option (Nat × Bool)) (t:Nat) (x:Operand) :
 scalarOp P σ.env { dst,op:=.call { callee:=.builtin .len,args:=#[x],argTypes:=#[t] },type:=ty,pos,after,guard }=lenSV P t (opnd σ.env x):=by
 unfold scalarOp lenSV
 have h1:(Op.call { callee:=.builtin .len,args:=#[x],argTypes:=#[t] }).operands.all (fun x=>(sclr (opnd σ.env x)).isSome)=(sclr (opnd σ.env x)).isSome:=by
  simp [Op.operands,Call.operands]
 simp only [h1]
 split
 ·have:execOp (fun x=>(sclr (opnd σ.env x)).getD undef) { dst,op:=.call { callee:=.builtin .len,args:=#[x],argTypes:=#[t] },type:=ty,pos,after,guard } =
   (do let v ← Builtin.len_ #[t] ty #[(sclr (opnd σ.env x)).getD undef];pure (.value v)):=by
   simp only [execOp,resolve,List.map_toArray,List.map_cons,List.map_nil]
   rfl
  have h2:pureOf P (Builtin.len_ #[t] ty #[(sclr (opnd σ.env x)).getD undef])=pureOf P (Builtin.len_ #[t] 0 #[(sclr (opnd σ.env x)).getD undef]):=rfl
  rw [this,zcp,h2]
  cases pureOf P (Builtin.len_ #[t] 0 #[(sclr (opnd σ.env x)).getD undef]) <;> rfl
 ·rfl
theorem s_len2 {g:Cfg} {d f:Nat} (dst:Option Nat) (pos:String) (after:Array Edge) (ty:TypeId) (guard:Option (Nat × Bool)) (t:Nat) (ops:Array Oper) (l:List Oper) (K:List It) (σ:St) (x:Operand) :
 stK g d f ops { dst,op:=.call { callee:=.builtin .len,args:=#[x],argTypes:=#[t] },type:=ty,pos,after,guard } l K σ =
 putK g d f ops dst l K ((lenAV2 g.P t (opnd σ.env x)).map fun v=>(.one (.s v),σ)):=by
 rw [s_len]
 congr 1
 cases hx:opnd σ.env x with
 | one c =>
  cases c with
  | l m n cs=>rfl
  | bs k n sz=>rfl
  | _=>simp only [lenAV,lenAV2];rw [← hx,← zok]
 | _=>simp only [lenAV,lenAV2];rw [← hx,← zok]

attribute [simp] s_len2 lenAV2
@[simp] theorem lenSV_str {P:Program} {t:TypeId} (s:ByteArray) (hu:P.underlying t=some .string):lenSV P t (.one (.s (.string s)))=some (.int .i64 s.size):=by
 unfold lenSV
 have hu':pureOf P (underlying t)=some .string:=by
  have : pureOf P (underlying t) = pureOf P (match P.underlying t with | some d => pure d | none => stuck "no such type") := rfl
  rw [this,hu]
  rfl
 have:pureOf P (Builtin.len_ #[t] 0 #[.string s])=some (.int .i64 s.size):=by
  unfold Builtin.len_
  simp only [List.getElem?_toArray,List.getElem?_cons_zero,zcp,hu',Option.bind_some]
  rfl
 simp [sclr,this,scal]

@[simp] theorem seg_zz {α:Type} (cs:List α):seg cs 0 0=some []:=by simp [seg]
@[simp] theorem seg_cz {α:Type} (c:α) (cs:List α) (m:Nat):seg (c :: cs) 0 (m+1)=(seg cs 0 m).map (c :: ·):=by
 unfold seg
 by_cases h:m≤cs.length
 ·simp [h]
 ·simp [h]
@[simp] theorem seg_cs {α:Type} (c:α) (cs:List α) (n m:Nat):seg (c :: cs) (n+1) m=seg cs n m:=by
 unfold seg
 have e:n+1+m≤(c :: cs).length ↔ n+m≤cs.length:=by simp;omega
 simp only [e,List.drop_succ_cons]
@[simp] theorem splice_nil {α:Type} (cs:List α):splice cs 0 []=cs:=by simp [splice]
@[simp] theorem splice_cz {α:Type} (c d:α) (cs ds:List α):splice (c :: cs) 0 (d :: ds)=d :: splice cs 0 ds:=by simp [splice]
@[simp] theorem splice_cs {α:Type} (c:α) (cs ds:List α) (n:Nat):splice (c :: cs) (n+1) ds=c :: splice cs n ds:=by
 unfold splice
 have:n+1+ds.length=(n+ds.length)+1:=by omega
 simp [this]

def rowC {α:Type} [Enc α] (xs:List α):List C:=(encL xs).map (C.ofD .own)
@[simp] theorem zhy {α:Type} [Enc α] (xs:List α):(rowC xs).length=xs.length * Enc.sz α:=by simp [rowC]
@[simp] theorem rowC_take {α:Type} [Enc α] {xs:List α} {n:Nat} (h:xs.length * Enc.sz α≤n):(rowC xs).take n=rowC xs:=by
 rw [List.take_of_length_le];simpa using h
theorem ownD_ofD:∀ (d:D),(C.ofD .own d).ownD=true
 | .sc _=>rfl
 | .sl _ _=>rfl
theorem toD_ofD (m:Md):∀ (d:D),(C.ofD m d).toD=some d
 | .sc _=>rfl
 | .sl _ _=>rfl
@[simp] theorem rowC_mode {α:Type} [Enc α] (xs:List α):modeOf (rowC xs)=some .own:=by
 unfold modeOf rowC
 rw [if_pos]
 rw [List.all_eq_true]
 intro c hc
 obtain ⟨d,_,rfl⟩:=List.mem_map.1 hc
 exact ownD_ofD d
theorem zmh (m:Md):∀ (l:List D),(l.map (C.ofD m)).mapM C.toD=some l
 | []=>rfl
 | d :: l=>by rw [List.map_cons,List.mapM_cons,toD_ofD,zmh m l];rfl
@[simp] theorem rowC_toD {α:Type} [Enc α] (xs:List α):(rowC xs).mapM C.toD=some (encL xs):=zmh .own _
theorem kill_ofD (p:Key→Bool) (m:Md):∀ (d:D),(C.ofD m d).kill p=C.ofD m d
 | .sc _=>rfl
 | .sl _ _=>rfl
@[simp] theorem rowC_kill {α:Type} [Enc α] (p:Key→Bool) (xs:List α):(rowC xs).map (C.kill p)=rowC xs:=by
 unfold rowC
 rw [List.map_map]
 conv=>rhs;rw [← List.map_id (List.map (C.ofD .own) (encL xs))]
 rw [List.map_map]
 exact List.map_congr_left fun d _=>kill_ofD p .own d
theorem seg_row {α:Type} [Enc α] {xs:List α} {n:Int} {x:α} (h:at? xs n=some x) (off m:Nat) (hm:off+m≤Enc.sz α) {ds:List D} (hd:seg (enc x) off m=some ds):seg (rowC xs) (n.toNat * Enc.sz α+off) m=some (ds.map (C.ofD .own)):=by
 have h1:=seg_at' h off m hm hd
 unfold seg at h1 ⊢
 split at h1
 ·rename_i hle
  rw [if_pos (by rw [zhy,← zeu];exact hle)]
  rw [Option.some.injEq] at h1
  unfold rowC
  rw [← List.map_drop,← List.map_take,h1]
 ·cases h1
theorem zmt {α:Type} [Enc α]:∀ (xs:List α) (i off:Nat) (x x':α) (new:List C),xs[i]?=some x→off+new.length≤Enc.sz α→splice ((enc x).map (C.ofD .own)) off new=(enc x').map (C.ofD .own)→splice (rowC xs) (i * Enc.sz α+off) new=rowC (xs.set i x')
 | [],i,off,x,x',new,h,_,_=>by simp at h
 | y :: ys,0,off,x,x',new,h,hm,he=>by
  simp only [List.getElem?_cons_zero,Option.some.injEq] at h
  subst h
  unfold rowC
  rw [List.set_cons_zero,zbj,zbj,List.map_append,List.map_append,← he]
  unfold splice
  have hl:((enc y).map (C.ofD .own)).length=Enc.sz α:=by rw [List.length_map,Enc.len]
  rw [Nat.zero_mul,Nat.zero_add,List.take_append_of_le_length (by omega),List.drop_append_of_le_length (by omega)]
  simp
 | y :: ys,i+1,off,x,x',new,h,hm,he=>by
  have ih:=zmt ys i off x x' new (by simpa using h) hm he
  unfold rowC at ih ⊢
  rw [List.set_cons_succ,zbj,zbj,List.map_append,List.map_append,← ih]
  unfold splice
  have hl:((enc y).map (C.ofD .own)).length=Enc.sz α:=by rw [List.length_map,Enc.len]
  have e:(i+1) * Enc.sz α+off=((enc y).map (C.ofD .own)).length+(i * Enc.sz α+off):=by rw [hl,Nat.add_mul,Nat.one_mul];omega
  rw [e,List.take_length_add_append,Nat.add_assoc,List.drop_length_add_append]
  simp
theorem zei {α:Type} [Enc α] {xs:List α} {n:Int} {x:α} (h:at? xs n=some x) (off:Nat) (x':α) (new:List C) (hm:off+new.length≤Enc.sz α) (he:splice ((enc x).map (C.ofD .own)) off new=(enc x').map (C.ofD .own)) :
 splice (rowC xs) (n.toNat * Enc.sz α+off) new=rowC (xs.set n.toNat x'):=by
 have h0:=at_lo h
 unfold at? at h
 rw [if_pos h0] at h
 exact zmt xs _ off x x' new h hm he
theorem zfq {α:Type} [Enc α] {xs:List α} {n:Int} {x:α} (h:at? xs n=some x) (off:Nat) {m:Nat} (hm:off+m≤Enc.sz α):n.toNat * Enc.sz α+off+m≤xs.length * Enc.sz α:=by
 have h1:=at_hi h
 have h0:=at_lo h
 have:n.toNat+1≤xs.length:=by omega
 have:=Nat.mul_le_mul_right (Enc.sz α) this
 rw [Nat.add_mul,Nat.one_mul] at this
 omega
def deadC {α:Type} [Enc α] (xs:List α) (k:Int):List C:=List.replicate (k.toNat * Enc.sz α) .dead ++ rowC (xs.drop k.toNat)
@[simp] theorem map_own {α:Type} [Enc α] (xs:List α):(encL xs).map (C.ofD .own)=rowC xs:=rfl
@[simp] theorem deadC_zero {α:Type} [Enc α] (xs:List α):deadC xs 0=rowC xs:=by simp [deadC]
@[simp] theorem deadC_kill {α:Type} [Enc α] (p:Key→Bool) (xs:List α) (k:Int):(deadC xs k).map (C.kill p)=deadC xs k:=by
 unfold deadC
 rw [List.map_append,rowC_kill,List.map_replicate]
 rfl
theorem killB_own:∀ (d:D),(C.ofD .own d).killB=C.ofD .own d
 | .sc _=>rfl
 | .sl _ _=>rfl
@[simp] theorem zom {α:Type} [Enc α] (xs:List α):(rowC xs).map C.killB=rowC xs:=by
 unfold rowC
 rw [List.map_map]
 exact List.map_congr_left fun d _=>killB_own d
@[simp] theorem deadC_killB {α:Type} [Enc α] (xs:List α) (k:Int):(deadC xs k).map C.killB=deadC xs k:=by
 unfold deadC
 rw [List.map_append,zom,List.map_replicate]
 rfl
def Tight (d:Nat) (mem:Mem):Prop:=memKill (fun k=>d < k.1) mem=mem
def Agree (d:Nat) (mem mem':Mem):Prop:=∀ k:Key,k.1≤d→mem' k=mem k
def LentM (m:Md):Prop:=m=.shr∨m=.bor
theorem LentM.copy {m:Md} (h:LentM m):m.copy=m:=by rcases h with rfl | rfl <;> rfl
theorem LentM.elem {m:Md} (h:LentM m):m.elem=m:=by rcases h with rfl | rfl <;> rfl
@[simp] theorem Md.copy_copy (m:Md):m.copy.copy=m.copy:=by cases m <;> rfl
@[simp] theorem Md.copy_elem2 (m:Md):m.copy.elem=m.copy:=by cases m <;> rfl
class LArgs (X:Type) extends Args X where
 lent:List AV→X→Prop
 lend:∀ az_ x,lent az_ x→az_.mapM AV.lend=some (args x)
instance:LArgs Unit where
 lent az_ _:=az_=[]
 lend az_ x h:=by subst h;rfl
instance {α β:Type} [Enc α] [LArgs β]:LArgs (α × β) where
 lent az_ x:=∃ m as',LentM m∧az_=av m x.1 :: as'∧LArgs.lent as' x.2
 lend az_ x h:=by
  obtain ⟨m,as',hm,rfl,h2⟩:=h
  rw [List.mapM_cons,av_lend,LArgs.lend as' x.2 h2]
  rfl
def capsAV (caps:List (Key × Nat)):List AV:=caps.map fun c=>.one (.ptr c.1 c.2)
@[simp] theorem capsAV_nil:capsAV []=[]:=rfl
@[simp] theorem capsAV_cons (c:Key × Nat) (l:List (Key × Nat)):capsAV (c :: l)=.one (.ptr c.1 c.2) :: capsAV l:=rfl
def Clo {X R:Type} [LArgs X] [Res R] (g:Cfg) (D:Nat) (mem:Mem) (fk:Nat) (caps:List (Key × Nat)) (p:X→Option R):Prop :=
 ∀ d' mem' az_ x r,D≤d'→Agree D mem mem'→Tight d' mem'→LArgs.lent az_ x→p x=some r→callo g d' fk (az_ ++ capsAV caps) mem'=some (Res.res r,mem')
theorem Clo.mono {X R:Type} [LArgs X] [Res R] {g:Cfg} {D D2:Nat} {mem mem2:Mem} {fk:Nat} {caps:List (Key × Nat)} {p:X→Option R} (h:Clo g D mem fk caps p) (hd:D≤D2) (ha:Agree D mem mem2):Clo g D2 mem2 fk caps p :=
 fun d' mem' az_ x r h1 h2 h3 h4 h5=>h d' mem' az_ x r (Nat.le_trans hd h1) (fun k hk=>(h2 k (Nat.le_trans hk hd)).trans (ha k hk)) h3 h4 h5
theorem clo1 {α R:Type} [Enc α] [Res R] {g:Cfg} {D:Nat} {mem:Mem} {fk:Nat} {caps:List (Key × Nat)} {p:α→Option R}
 (h:∀ d' mem' m x r,D≤d'→Agree D mem mem'→Tight d' mem'→LentM m→p x=some r→callo g d' fk (av m x :: capsAV caps) mem'=some (Res.res r,mem')):Clo g D mem fk caps fun x:α × Unit=>p x.1:=by
 rintro d' mem' az_ ⟨x,u⟩ r h1 h2 h3 ⟨m,as',hm,rfl,h4⟩ h5
 have h4:as'=[]:=h4
 subst h4
 exact h d' mem' m x r h1 h2 h3 hm h5
theorem clo_ctx {X R:Type} [LArgs X] [Res R] {g:Cfg} {D:Nat} {mem:Mem} {k:Nat} {F:X→Option R} (h:lookN k g.ctx=some (specP F)):Clo g D mem k [] F:=by
 intro d' mem' az_ x r _ _ _ h4 h5
 rw [capsAV_nil,List.append_nil,zmj,h]
 simp only
 rw [LArgs.lend az_ x h4]
 simp only [Option.bind_some,zah h5,Res.own,Bool.true_or,if_true]

theorem noAway {g:Cfg} {k:Nat} (h1:∀ t,((k,t)∈g.ro)=False) (h2:g.away.all (fun x=>x.1 != k)=true) {gv:List Nat} (h3:∀ t,((k,t)∈g.give)=(t∈gv)):(∀ t,((k,t)∈g.ro)=False)∧(∀ d dst key,awayB g d k dst key=false)∧(∀ d a key,lateB g d k a key=false)∧(∀ t,((k,t)∈g.give)=(t∈gv)):=by
 rw [List.all_eq_true] at h2
 refine ⟨h1,fun d dst key=>?_,fun d a key=>?_,h3⟩
 ·cases dst with
  | none=>rfl
  | some t =>
   simp only [awayB]
   rw [List.any_eq_false]
   intro x hx
   have:=h2 x hx
   simp only [bne_iff_ne,ne_eq] at this
   simp [this]
 ·cases a with
  | tmp b =>
   simp only [lateB]
   rw [List.any_eq_false]
   intro x hx
   have:=h2 x hx
   simp only [bne_iff_ne,ne_eq] at this
   simp [this]
  | _=>rfl
structure Has (P:Program) (g:Cfg) (k:Nat) (fn:Func) (tk:List Nat) (kp:List (Nat × Kp)) (cs:List (Nat × (List AV→Option AV))) (gl:List (Nat × List Gho)) (gv:List Nat:=[]) (os:List (Nat × Option (List AV→Option AV)):=[]):Prop where
 P:g.P=P
 ok:fnOK g k fn=true
 no:lookN k g.ctx=none
 tk:∀ t,((k,t)∈g.take)=(t∈tk)
 ro:(∀ t,((k,t)∈g.ro)=False)∧(∀ d dst key,awayB g d k dst key=false)∧(∀ d a key,lateB g d k a key=false)∧(∀ t,((k,t)∈g.give)=(t∈gv))
 oc:∀ p∈os,lookN p.1 g.octx=p.2
 gh:∀ i,lookK (k,i) g.gho=lookN i gl
 kp:∀ p∈kp,lookK (k,p.1) g.keep=some p.2
 cs:∀ p∈cs,lookN p.1 g.ctx=some p.2

def FnEndI (P:Program) (d:Nat) (l:List ResultVar) (gl:List Gho) (r:AV) (mem:Mem) (o:Option Out):Prop:=finK P d l gl o=some (r,mem)
theorem zhq {g:Cfg} {P:Program} {f:Nat} {args:List AV} {mem:Mem} {d:Nat} {fn:Func} {r:AV} (c:Code) (l:List ResultVar) {tk:List Nat} {kp:List (Nat × Kp)} {cs:List (Nat × (List AV→Option AV))} {gl:List (Nat × List Gho)} {gv:List Nat} {os:List (Nat × Option (List AV→Option AV))} (G:Has P g f fn tk kp cs gl gv os) (h1:P.funcs[f]?=some fn) (h2:fn.body=some c)
 (h4:args.length≤fn.ntmps) (h5:fn.results.toList=l) (h:Goal (FnEndI P d l ((lookN atEnd gl).getD []) r mem) (evk g (d+1) f c [] { env:=fun t=>(args[t]?).getD .dead,mem })):callo g d f args mem=some (r,mem):=by
 rw [zkw l G.no G.P h1 h2 G.ok h4 h5,G.gh]
 exact h
def FnEndE (P:Program) (d:Nat) (l:List ResultVar) (gl:List Gho) (R:AV→Prop) (mem:Mem) (o:Option Out):Prop:=∃ r,finK P d l gl o=some (r,mem)∧R r
theorem start_ex {g:Cfg} {P:Program} {f:Nat} {args:List AV} {mem:Mem} {d:Nat} {fn:Func} {R:AV→Prop} (c:Code) (l:List ResultVar) {tk:List Nat} {kp:List (Nat × Kp)} {cs:List (Nat × (List AV→Option AV))} {gl:List (Nat × List Gho)} {gv:List Nat} {os:List (Nat × Option (List AV→Option AV))} (G:Has P g f fn tk kp cs gl gv os) (h1:P.funcs[f]?=some fn) (h2:fn.body=some c)
 (h4:args.length≤fn.ntmps) (h5:fn.results.toList=l) (h:Goal (FnEndE P d l ((lookN atEnd gl).getD []) R mem) (evk g (d+1) f c [] { env:=fun t=>(args[t]?).getD .dead,mem })):∃ r,callo g d f args mem=some (r,mem)∧R r:=by
 rw [zkw l G.no G.P h1 h2 G.ok h4 h5,G.gh]
 exact h
def tupM {α:Type} [Enc α] (m:Md) (x:α):Bool × List C:=(Enc.agg α,(enc x).map (C.ofD m))

theorem zga {g:Cfg} {d f:Nat} {T:Option Out→Prop} {ops:Array Oper} {dst:Option Nat} {l:List Oper} {K:List It} {env:Nat→AV} {k:Nat} {args:List AV} {mem:Mem} (args':List AV) (r:AV) (ha:args=args') (h:callo g d k args' mem=some (r,mem))
 (h2:Goal T (opsK g d f ops l K { env:=putD env dst r,mem:=mem })):Goal T (retK g d f ops dst l K env (callo g d k args mem)):=by
 subst ha
 rw [h]
 exact h2

theorem zpa {g:Cfg} {d f:Nat} {T:Option Out→Prop} {ops:Array Oper} {dst:Option Nat} {l:List Oper} {K:List It} {env:Nat→AV} {k:Nat} {args:List AV} {mem:Mem} (args':List AV) (R:AV→Prop) (ha:args=args') (h:∃ r,callo g d k args' mem=some (r,mem)∧R r)
 (h2:∀ r,R r→Goal T (opsK g d f ops l K { env:=putD env dst r,mem:=mem })):Goal T (retK g d f ops dst l K env (callo g d k args mem)):=by
 subst ha
 obtain ⟨r,h,hr⟩:=h
 rw [h]
 exact h2 r hr

theorem s_callT {g:Cfg} {d f:Nat} (dst:Option Nat) (pos:String) (after:Array Edge) (ty:TypeId) (guard:Option (Nat × Bool)) (ops:Array Oper) (l:List Oper) (K:List It) (σ:St) (t:Nat) (args:Array Operand) (argTypes:Array TypeId) (hro:isRo g f dst=false∧isGive g f dst=false) :
 stK g d f ops { dst,op:=.call { callee:=.value (.tmp t),args,argTypes },type:=ty,pos,after,guard } l K σ =
 callK g d f ops dst l K σ (args.toList.map fun y=>(opnd σ.env y).copy) (calleeOf σ.env (.tmp t)):=s_call (hro:=hro) ..
theorem s_callTRo {g:Cfg} {d f:Nat} (dst:Option Nat) (pos:String) (after:Array Edge) (ty:TypeId) (guard:Option (Nat × Bool)) (ops:Array Oper) (l:List Oper) (K:List It) (σ:St) (t:Nat) (args:Array Operand) (argTypes:Array TypeId) (hro:isRo g f dst=true∧isGive g f dst=false) :
 stK g d f ops { dst,op:=.call { callee:=.value (.tmp t),args,argTypes },type:=ty,pos,after,guard } l K σ =
 callRo g d f ops dst l K σ (args.toList.map fun y=>(opnd σ.env y).copy) (calleeOf σ.env (.tmp t)):=s_callRo (hro:=hro) ..
@[simp] theorem callRo_some {g:Cfg} {d f:Nat} (dst:Option Nat) (ops:Array Oper) (l:List Oper) (K:List It) (σ:St) (args:List AV) (k:Nat) (caps:List AV):callRo g d f ops dst l K σ args (some (k,caps))=roK g d f ops dst l K σ k (callo g d k (args ++ caps) σ.mem):=rfl
@[simp] theorem callK_some {g:Cfg} {d f:Nat} (dst:Option Nat) (ops:Array Oper) (l:List Oper) (K:List It) (σ:St) (args:List AV) (k:Nat) (caps:List AV):callK g d f ops dst l K σ args (some (k,caps))=retK g d f ops dst l K σ.env (callo g d k (args ++ caps) σ.mem):=rfl

@[simp] theorem memKill_get (p:Key→Bool) (m:Mem) (k:Key):memKill p m k=if p k=true then none else (m k).map (List.map (C.kill p)):=rfl
theorem zbe {d:Nat} {m:Mem} {k:Key} {v:Option (List C)} (h:d < k.1):memKill (fun k=>decide (d < k.1)) (upd m k v)=memKill (fun k=>decide (d < k.1)) m:=by
 funext x
 unfold memKill upd
 by_cases hx:x=k
 ·subst hx;simp [h]
 ·simp [hx]
theorem memKill_lo {d:Nat} {m:Mem} {k:Key} {cs:List C} (h:¬ d < k.1):memKill (fun k=>decide (d < k.1)) (upd m k (some cs))=upd (memKill (fun k=>decide (d < k.1)) m) k (some (cs.map (C.kill fun k=>decide (d < k.1)))):=by
 funext x
 unfold memKill upd
 by_cases hx:x=k
 ·subst hx;simp [h]
 ·simp [hx]
theorem zko {d:Nat} {m mem:Mem} (h:Agree d mem m) (hT:Tight d mem):memKill (fun k=>decide (d < k.1)) m=mem:=by
 funext k
 have h1:=congrFun hT k
 unfold memKill at h1 ⊢
 by_cases hk:d < k.1
 ·simp only [hk,decide_true,if_true] at h1 ⊢; exact h1
 ·simp only [hk,decide_false,Bool.false_eq_true,if_false] at h1 ⊢
  rw [h k (by omega)]
  exact h1
theorem zap (d:Nat):Tight d mem0:=mem0_kill _
theorem Tight.none {d:Nat} {m:Mem} (h:Tight d m) {k:Key} (hk:d < k.1):m k=none:=by
 have h1:=congrFun h k
 unfold memKill at h1
 simp only [hk,decide_true,if_true] at h1
 exact h1.symm
theorem kill_comm (p q:Key→Bool):∀ (c:C),(c.kill p).kill q=(c.kill q).kill p
 | .s _ | .l .. | .ep .. | .dead | .mp _=>rfl
 | .ptr k off=>by simp only [C.kill];by_cases h1:p k=true <;> by_cases h2:q k=true <;> simp [h1,h2,C.kill]
 | .fn f caps=>by simp only [C.kill];by_cases h1:(caps.any fun c=>p c.1)=true <;> by_cases h2:(caps.any fun c=>q c.1)=true <;> simp only [h1,h2,C.kill,if_true,if_false,Bool.false_eq_true]
 | .bs k n sz=>by simp only [C.kill];by_cases h1:p k=true <;> by_cases h2:q k=true <;> simp [h1,h2,C.kill]
theorem zlv (p q:Key→Bool) (m:Mem):memKill p (memKill q m)=memKill q (memKill p m):=by
 funext k
 unfold memKill
 by_cases h1:p k=true <;> by_cases h2:q k=true <;> simp only [h1,h2,if_true,if_false,Bool.false_eq_true,Option.map_none]
 cases m k with
 | none=>rfl
 | some cs =>
  simp only [Option.map_some,List.map_map,Option.some.injEq]
  exact List.map_congr_left fun c _=>kill_comm q p c
theorem Tight.restrict {d D:Nat} {σ:St} {x:List Nat × List Nat} (h:Tight D σ.mem):Tight D (Ev.restrict d σ x).mem:=by
 unfold Tight at h ⊢
 show memKill _ (memKill _ σ.mem)=memKill _ σ.mem
 rw [zlv,h]
theorem zkn {p q:Key→Bool} (hpq:∀ k,q k=true→p k=true):∀ (c:C),c.kill p=c→c.kill q=c
 | .s _,_ | .l ..,_ | .ep ..,_ | .dead,_ | .mp _,_=>rfl
 | .ptr k off,h=>by
  simp only [C.kill] at h ⊢
  by_cases hq:q k=true
  ·rw [if_pos (hpq k hq)] at h;cases h
  ·rw [if_neg hq]
 | .fn f caps,h=>by
  simp only [C.kill] at h ⊢
  by_cases hq:(caps.any fun c=>q c.1)=true
  ·rw [if_pos] at h
   ·cases h
   ·rw [List.any_eq_true] at hq ⊢
    obtain ⟨x,hx,hx2⟩:=hq
    exact ⟨x,hx,hpq _ hx2⟩
  ·rw [if_neg hq]
 | .bs k n sz,h=>by
  simp only [C.kill] at h ⊢
  by_cases hq:q k=true
  ·rw [if_pos (hpq k hq)] at h;cases h
  ·rw [if_neg hq]
theorem Agree.upd {d:Nat} {mem m:Mem} (h:Agree d mem m) {k:Key} {v:Option (List C)} (hk:d < k.1):Agree d mem (Ev.upd m k v):=by
 intro x hx
 have:x≠k:=by rintro rfl;omega
 rw [upd_get,if_neg this]
 exact h x hx
theorem Agree.restrict {d:Nat} {mem:Mem} {σ:St} {x:List Nat × List Nat} (hT:Tight d mem) (h:Agree d mem σ.mem):Agree d mem (Ev.restrict (d+1) σ x).mem:=by
 intro k hk
 show memKill (fun y=>y.1 == d+1 && x.2.contains y.2) σ.mem k=mem k
 unfold memKill
 have hne:¬ ((k.1 == d+1 && x.2.contains k.2)=true):=by
  have:(k.1 == d+1)=false:=by simp;omega
  rw [this];simp
 rw [if_neg hne,h k hk]
 have h1:=congrFun hT k
 unfold memKill at h1
 have hk2:¬ d < k.1:=by omega
 simp only [hk2,decide_false,Bool.false_eq_true,if_false] at h1
 cases hm:mem k with
 | none=>rfl
 | some cs =>
  rw [hm] at h1
  simp only [Option.map_some,Option.some.injEq] at h1 ⊢
  have h3:∀ c∈cs,c.kill (fun k=>decide (d < k.1))=c:=by
   intro c hc
   obtain ⟨i,hi,rfl⟩:=List.mem_iff_getElem.1 hc
   have:=congrArg (fun l=>l[i]?) h1
   simp only [List.getElem?_map,List.getElem?_eq_getElem hi,Option.map_some,Option.some.injEq] at this
   exact this
  calc cs.map _=cs.map id:=List.map_congr_left fun c hc=>zkn (fun k hq=>by
        simp only [Bool.and_eq_true,beq_iff_eq] at hq
        simp only [decide_eq_true_eq];omega) c (h3 c hc)
   _=cs:=List.map_id cs
def NoBoxD (d:Nat) (L:List Key) (m:Mem):Prop:=∀ k:Key,d < k.1→k ∉ L→m k=none
theorem NoBoxD.restrict {d:Nat} {σ:St} {ts bs:List Nat} {L:List Key} (h:∀ k:Key,d < k.1→k ∉ L→k ∉ bs.map (fun b=>(d+1,b))→σ.mem k=none):NoBoxD d L (Ev.restrict (d+1) σ (ts,bs)).mem:=by
 intro k h1 h2
 rw [zab]
 by_cases h3:(k.1 == d+1 && bs.contains k.2)=true
 ·rw [if_pos h3]
 ·rw [if_neg h3,h k h1 h2]
  ·rfl
  ·intro hm
   apply h3
   obtain ⟨b,hb,rfl⟩:=List.mem_map.1 hm
   simp [hb]
theorem NoBox.restrict {D:Nat} {σ:St} {ts bs:List Nat} {L:List Key} (h:∀ k:Key,k ∉ L→k ∉ bs.map (fun b=>(D,b))→σ.mem k=none):NoBox L (Ev.restrict D σ (ts,bs)).mem:=by
 intro k h2
 rw [zab]
 by_cases h3:(k.1 == D && bs.contains k.2)=true
 ·rw [if_pos h3]
 ·rw [if_neg h3,h k h2]
  ·rfl
  ·intro hm
   apply h3
   obtain ⟨b,hb,rfl⟩:=List.mem_map.1 hm
   simp [hb]
theorem s_moveT {g:Cfg} {d f:Nat} (dst:Option Nat) (pos:String) (after:Array Edge) (ty:TypeId) (guard:Option (Nat × Bool)) (ops:Array Oper) (l:List Oper) (K:List It) (σ:St) (x:Operand) (h:g.tk f dst=true) :
 stK g d f ops { dst,op:=.move x,type:=ty,pos,after,guard } l K σ=opsK g d f ops l K { σ with env:=putD (kil σ.env x) dst (opnd σ.env x) }:=by
 rw [st_op _ _ _ _ _ (by simp)]
 simp only [opE,h,if_true,putK,Option.bind_some]
theorem Tight.up {d:Nat} {m:Mem} (h:Tight d m):Tight (d+1) m:=by
 funext k
 have h1:=congrFun h k
 unfold memKill at h1 ⊢
 by_cases hk:d < k.1
 ·simp only [hk,decide_true,if_true] at h1
  rw [← h1];simp
 ·have hk2:¬ d+1 < k.1:=by omega
  simp only [hk,hk2,decide_false,Bool.false_eq_true,if_false] at h1 ⊢
  cases hm:m k with
  | none=>rfl
  | some cs =>
   rw [hm] at h1
   simp only [Option.map_some,Option.some.injEq] at h1 ⊢
   have:∀ (l:List C),l.map (C.kill fun k=>decide (d < k.1))=l→l.map (C.kill fun k=>decide (d+1 < k.1))=l:=by
    intro l
    induction l with
    | nil=>intro _;rfl
    | cons c l ih =>
     intro hc
     simp only [List.map_cons,List.cons.injEq] at hc ⊢
     refine ⟨?_,ih hc.2⟩
     have h1:=hc.1
     cases c with
     | ptr k off =>
      simp only [C.kill] at h1 ⊢
      by_cases hq:d < k.1
      ·simp [hq] at h1
      ·simp [show ¬ d+1 < k.1 by omega]
     | fn f caps =>
      simp only [C.kill] at h1 ⊢
      by_cases hq:(caps.any fun c=>decide (d < c.1.1))=true
      ·simp [hq] at h1
      ·rw [if_neg]
       intro hh
       apply hq
       rw [List.any_eq_true] at hh ⊢
       obtain ⟨x,hx,hx2⟩:=hh
       refine ⟨x,hx,?_⟩
       simp only [decide_eq_true_eq] at hx2 ⊢
       omega
     | bs k n sz =>
      simp only [C.kill] at h1 ⊢
      by_cases hq:d < k.1
      ·simp [hq] at h1
      ·simp [show ¬ d+1 < k.1 by omega]
     | _=>rfl
   exact this cs h1
theorem Tight.upd {d:Nat} {m:Mem} (h:Tight d m) {k:Key} (hk:¬ d < k.1) {cs:List C} (hc:cs.map (C.kill fun k=>decide (d < k.1))=cs):Tight d (upd m k (some cs)):=by
 unfold Tight
 rw [memKill_lo hk,hc,h]

@[simp] theorem modeOf_nil:modeOf []=some .own:=rfl
@[simp] theorem modeOf_own {cs:List C} (h:cs.all C.ownD=true):modeOf cs=some .own:=by unfold modeOf;rw [if_pos h]
@[simp] theorem modeOf_top {cs:List C} (h1:cs.all C.ownD=false) (h2:cs.all C.shrD=true):modeOf cs=some .top:=by unfold modeOf;rw [h1,h2];rfl

def appK (P:Program) (x y:Operand) (argTypes:Array TypeId) (dst:Option Nat) (σ:St) (X Y:AV):Option (AV × St) :=
 (argTypes[0]?).bind fun t=>(ti P t).bind fun i=>i.elem.bind fun e=>(ti P e).bind fun ei =>
  if argTypes[1]?=some t∧argTypes.size=2∧nodup (tmpsOf [x,y])=true∧dst.isSome=true then
   match X,Y with
   | .one (.l m n cs),.one (.l my ny csy) =>
    if m=.own∨m=.top then
     if cs.length=n * ei.size∧csy.length=ny * ei.size∧0 < ei.size∧ei.zero.length=ei.size∧(n+ny) * (ei.bytes+1)≤maxBytes then
      (appMode m my cs csy).bind fun m'=>some (.one (.l m' (n+ny) (cs ++ csy)),{ σ with env:=kil (kil σ.env x) y })
     else none
    else none
   | _,_=>none
  else none
theorem s_append2 {g:Cfg} {d f:Nat} (dst:Option Nat) (pos:String) (after:Array Edge) (ty:TypeId) (guard:Option (Nat × Bool)) (ops:Array Oper) (l:List Oper) (K:List It) (σ:St) (x y:Operand) (argTypes:Array TypeId) :
 stK g d f ops { dst,op:=.call { callee:=.builtin .append,args:=#[x,y],argTypes },type:=ty,pos,after,guard } l K σ=putK g d f ops dst l K (appK g.P x y argTypes dst σ (opnd σ.env x) (opnd σ.env y)):=by
 rw [s_append]
 congr 1
 unfold appK
 simp only [opE,bind]
 cases h0:argTypes[0]? with
 | none=>rfl
 | some t =>
  simp only [Option.bind_some]
  cases hi:ti g.P t with
  | none=>rfl
  | some i =>
   simp only [Option.bind_some]
   cases he:i.elem with
   | none=>rfl
   | some e =>
    simp only [Option.bind_some]
    cases hei:ti g.P e with
    | none=>rfl
    | some ei =>
     simp only [Option.bind_some]
     by_cases hc:argTypes[1]?=some t∧argTypes.size=2∧nodup (tmpsOf [x,y])=true∧dst.isSome=true
     ·rw [if_pos hc]
      obtain ⟨c1,c2,c3,c4⟩:=hc
      rw [if_neg (by simp only [c1,c2,c3];cases dst <;> simp_all)]
      cases opnd σ.env x with
      | one cx =>
       cases cx with
       | l m n cs =>
        cases opnd σ.env y with
        | one cy =>
         cases cy with
         | l my ny csy =>
          simp only
          by_cases hm:m=.own∨m=.top
          ·rw [if_neg (not_not_intro hm),if_pos hm]
           by_cases hq:cs.length=n * ei.size∧csy.length=ny * ei.size∧0 < ei.size∧ei.zero.length=ei.size∧(n+ny) * (ei.bytes+1)≤maxBytes
           ·rw [if_neg (not_not_intro hq),if_pos hq]
           ·rw [if_pos hq,if_neg hq]
          ·rw [if_pos hm,if_neg hm]
         | _=>rfl
        | _=>rfl
       | _=>rfl
      | _=>rfl
     ·rw [if_neg hc,if_pos]
      by_cases c1:argTypes[1]?=some t
      ·by_cases c2:argTypes.size=2
       ·by_cases c3:nodup (tmpsOf [x,y])=true
        ·have c4:dst=none:=by
          cases dst with
          | none=>rfl
          | some v=>exact absurd ⟨c1,c2,c3,rfl⟩ hc
         simp [c4]
        ·simp [c3]
       ·simp [c2]
      ·simp [c1]
@[simp] theorem app_len_eq (n k:Nat):(n * k+k=(n+1) * k)=True:=by rw [Nat.add_mul,Nat.one_mul];simp
@[simp] theorem one_add_nat (n:Nat):1+n=n+1:=Nat.add_comm 1 n
class ScEnc (α:Type) [Enc α]:Prop where
 sc:∀ x:α,(Enc.enc x).all D.isSc=true
instance:ScEnc Int:=⟨fun _=>rfl⟩
instance:ScEnc Bool:=⟨fun _=>rfl⟩
instance:ScEnc ByteArray:=⟨fun _=>rfl⟩
@[simp] theorem encL_sc {α:Type} [Enc α] [ScEnc α] (xs:List α):(encL xs).all D.isSc=true:=by
 induction xs with
 | nil=>rfl
 | cons x xs ih=>rw [zbj,List.all_append,ScEnc.sc,ih];rfl
@[simp] theorem appMode_sc {m my:Md} {cs csy:List D} (h:csy.all D.isSc=true):appMode m my cs csy=some m:=by unfold appMode;rw [if_pos h]
@[simp] theorem appMode_own (cs csy:List D):appMode .own .own cs csy=some .own:=by unfold appMode;split <;> rfl
attribute [simp] s_append2 appK
theorem Tight.killB {d:Nat} {m:Mem} (h:Tight d m):Tight d (fun k=>(m k).map (List.map C.killB)):=by
 funext k
 have h1:=congrFun h k
 unfold memKill at h1 ⊢
 cases hq:decide (d < k.1) with
 | true =>
  simp only [hq,if_true] at h1 ⊢
  rw [← h1]
  rfl
 | false =>
  simp only [hq,Bool.false_eq_true,if_false] at h1 ⊢
  cases hm:m k with
  | none=>rfl
  | some cs =>
   rw [hm] at h1
   simp only [Option.map_some,Option.some.injEq,List.map_map] at h1 ⊢
   refine List.map_congr_left fun c hc=>?_
   have hcc:c.kill (fun k=>decide (d < k.1))=c:=by
    have:=List.map_inj_left.1 (h1.trans (List.map_id cs).symm) c hc
    simpa using this
   show (c.killB).kill _=c.killB
   cases c with
   | l m n ds=>cases m <;> rfl
   | ep m cs pos=>rfl
   | _=>exact hcc
theorem Agree.killK {d D t:Nat} {mem m:Mem} (hT:Tight d mem) (h:Agree d mem m) (hD:d < D):Agree d mem (memKill (fun x=>x == (D,t)) m):=by
 intro k hk
 unfold memKill
 have hne:(k == (D,t))=false:=by
  rw [beq_eq_false_iff_ne]
  rintro rfl
  simp at hk
  omega
 show (if (k == (D,t))=true then none else (m k).map (List.map (C.kill fun x=>x == (D,t))))=mem k
 rw [hne,h k hk]
 simp only [Bool.false_eq_true,if_false]
 cases hm:mem k with
 | none=>rfl
 | some cs =>
  simp only [Option.map_some,Option.some.injEq]
  have h1:(if decide (d < k.1)=true then none else (mem k).map (List.map (C.kill fun k=>decide (d < k.1))))=mem k:=congrFun hT k
  have hq:decide (d < k.1)=false:=by simp;exact hk
  rw [hq,hm] at h1
  simp only [Bool.false_eq_true,if_false,Option.map_some,Option.some.injEq] at h1
  have:cs.map (C.kill fun x=>x == (D,t))=cs.map id:=by
   refine List.map_congr_left fun c hc=>?_
   have hcc:c.kill (fun k=>decide (d < k.1))=c:=by
    have:=List.map_inj_left.1 (h1.trans (List.map_id cs).symm) c hc
    simpa using this
   exact zkn (fun x hx=>by rw [beq_iff_eq] at hx;subst hx;simpa using hD) c hcc
  rw [this,List.map_id]
theorem Agree.killB {d:Nat} {mem m:Mem} (hB:∀ x,(mem x).map (List.map C.killB)=mem x) (h:Agree d mem m):Agree d mem (fun k=>(m k).map (List.map C.killB)):=fun k hk=>by
 show (m k).map _=_
 rw [h k hk,hB]
attribute [simp] isRo isGive s_give giveX_some gaveEnv posOf nodupA s_callT s_callTRo s_moveT callX_none calleeOf atEnd Loc.notK St.killK St.killB AV.killB C.killB Loc.own?
attribute [simp] av tup tupM lookN AV.lend C.lend AV.own? C.own? AV.data? C.data? AV.shr? C.shr? ctxCall Loc.get Loc.set Plc.loc gho1 ghoB C.toD maxBytes C.ownD C.shrD nodup tmpsOf fillC D.isSc loOf hiOf

structure U8 where
 v:Int
instance:Enc U8 where
 sz:=1
 agg:=false
 enc n:=[.sc (.int .u8 n.v)]
 len _:=rfl
 pos:=Nat.one_pos
 one _:=rfl
 inj x y h:=by
  cases x;cases y
  simp only [List.cons.injEq,D.sc.injEq,Value.int.injEq,true_and,and_true] at h
  rw [h]
@[simp] theorem enc_u8 (n:U8):Enc.enc n=[.sc (.int .u8 n.v)]:=rfl
@[simp] theorem sz_u8:Enc.sz U8=1:=rfl
@[simp] theorem agg_u8:Enc.agg U8=false:=rfl
end Go.Ev


namespace Go.Ev
open Enc (enc)
theorem zgy {α:Type} [Enc α] {a b:α} {u v:List D} (h:enc a ++ u=enc b ++ v):a=b∧u=v:=by
 obtain ⟨h1,h2⟩:=List.append_inj h (by rw [Enc.len,Enc.len])
 exact ⟨Enc.inj _ _ h1,h2⟩

structure TNode where
 vars:(List Int)
 reach:(List Int)
 shared:Int
 many:Int
instance:Enc TNode where
 sz:=4
 agg:=true
 enc x:=enc x.vars ++ (enc x.reach ++ (enc x.shared ++ (enc x.many ++ ([]))))
 len x:=by simp [Enc.len]
 pos:=by decide
 one h:=by cases h
 inj x y h:=by
  cases x;cases y
  obtain ⟨rfl,h⟩:=zgy h
  obtain ⟨rfl,h⟩:=zgy h
  obtain ⟨rfl,h⟩:=zgy h
  obtain ⟨rfl,h⟩:=zgy h
  rfl
@[simp] theorem enc_TNode (x:TNode):enc x=enc x.vars ++ (enc x.reach ++ (enc x.shared ++ (enc x.many ++ ([])))):=rfl
@[simp] theorem sz_TNode:Enc.sz TNode=4:=rfl
@[simp] theorem agg_TNode:Enc.agg TNode=true:=rfl

structure TStructure where
 nodes:(List TNode)
 next:(List Int)
instance:Enc TStructure where
 sz:=2
 agg:=true
 enc x:=enc x.nodes ++ (enc x.next ++ ([]))
 len x:=by simp [Enc.len]
 pos:=by decide
 one h:=by cases h
 inj x y h:=by
  cases x;cases y
  obtain ⟨rfl,h⟩:=zgy h
  obtain ⟨rfl,h⟩:=zgy h
  rfl
@[simp] theorem enc_TStructure (x:TStructure):enc x=enc x.nodes ++ (enc x.next ++ ([])):=rfl
@[simp] theorem sz_TStructure:Enc.sz TStructure=2:=rfl
@[simp] theorem agg_TStructure:Enc.agg TStructure=true:=rfl

structure THeap where
 vars:(List Int)
 next:(List Int)
instance:Enc THeap where
 sz:=2
 agg:=true
 enc x:=enc x.vars ++ (enc x.next ++ ([]))
 len x:=by simp [Enc.len]
 pos:=by decide
 one h:=by cases h
 inj x y h:=by
  cases x;cases y
  obtain ⟨rfl,h⟩:=zgy h
  obtain ⟨rfl,h⟩:=zgy h
  rfl
@[simp] theorem enc_THeap (x:THeap):enc x=enc x.vars ++ (enc x.next ++ ([])):=rfl
@[simp] theorem sz_THeap:Enc.sz THeap=2:=rfl
@[simp] theorem agg_THeap:Enc.agg THeap=true:=rfl

structure TL1Cur where
 b:(List U8)
 i:Int
 h:Int
instance:Enc TL1Cur where
 sz:=3
 agg:=true
 enc x:=enc x.b ++ (enc x.i ++ (enc x.h ++ ([])))
 len x:=by simp [Enc.len]
 pos:=by decide
 one h:=by cases h
 inj x y h:=by
  cases x;cases y
  obtain ⟨rfl,h⟩:=zgy h
  obtain ⟨rfl,h⟩:=zgy h
  obtain ⟨rfl,h⟩:=zgy h
  rfl
@[simp] theorem enc_TL1Cur (x:TL1Cur):enc x=enc x.b ++ (enc x.i ++ (enc x.h ++ ([]))):=rfl
@[simp] theorem sz_TL1Cur:Enc.sz TL1Cur=3:=rfl
@[simp] theorem agg_TL1Cur:Enc.agg TL1Cur=true:=rfl

end Go.Ev


namespace Go.Ev

theorem zfj {P:Program} {t:Nat} {d:TypeDesc} (hu:P.underlying t=some d):pureOf P (underlying t)=some d:=by
 have : pureOf P (underlying t) = pureOf P (match P.underlying t with | some d => pure d | none => stuck "no such type") := rfl
 rw [this,hu]
 rfl
theorem eqIn_bool {P:Program} {d t:Nat} (hu:P.underlying t=some .bool) (a b:Bool):pureOf P (Op.equalIn (d+1) t (.bool a) (.bool b))=some (a == b):=by
 rw [Op.equalIn,zcp,zfj hu]
 rfl
@[simp] theorem tb_eqlB (P:Program) {t:TypeId} (x y:Operand) (a b:Bool) (hu:P.underlying t=some .bool):binAV P .eql t x y (vB a) (vB b)=some (.bool (eqB a b)):=by
 have h1:pureOf P (do eqGuard .eql t x y (.bool a) (.bool b);binOp .eql t (.bool a) (.bool b))=some (.bool (a == b)):=by
  show pureOf P (Op.equalIn (9999+1) t (.bool a) (.bool b) >>= fun r=>pure (Value.bool r))=_
  rw [zcp,eqIn_bool hu]
  rfl
 simp [binAV,sclr,h1,scal,eqB]
@[simp] theorem tb_neqB (P:Program) {t:TypeId} (x y:Operand) (a b:Bool) (hu:P.underlying t=some .bool):binAV P .neq t x y (vB a) (vB b)=some (.bool (neB a b)):=by
 have h1:pureOf P (do eqGuard .neq t x y (.bool a) (.bool b);binOp .neq t (.bool a) (.bool b))=some (.bool !(a == b)):=by
  show pureOf P (Op.equalIn (9999+1) t (.bool a) (.bool b) >>= fun r=>pure (Value.bool !r))=_
  rw [zcp,eqIn_bool hu]
  rfl
 simp [binAV,sclr,h1,scal,neB]
end Go.Ev


namespace Go.Ev

theorem zae {α:Type} (p:Prop) [Decidable p] (x y:α):cond (decide p) x y=if p then x else y:=by by_cases h:p <;> simp [h]
theorem zdh {α:Type} (p:Prop) [Decidable p] (x y:α):cond (!decide p) x y=if p then y else x:=by by_cases h:p <;> simp [h]
theorem zan {a b:Int} (h1:-9223372036854775808≤a+b) (h2:a+b≤9223372036854775807):addI a b=a+b:=Go.IntWalk.i64_in _ (by omega)
theorem zay {a b:Int} (h1:-9223372036854775808≤a - b) (h2:a - b≤9223372036854775807):subI a b=a - b:=Go.IntWalk.i64_in _ (by omega)
theorem zgm {a b:Int} (h1:-9223372036854775808≤a * b) (h2:a * b≤9223372036854775807):mulI a b=a * b:=Go.IntWalk.i64_in _ (by omega)
theorem zef {α:Type} (xs:List α) (i:Nat):at? xs (i:Int)=xs[i]?:=by simp [at?]
def foldE {α β ρ:Type} (f:β→Nat→α→Option (β ⊕ ρ)) (e:β→Option ρ):β→Nat→List α→Option ρ
 | b,_,[]=>e b
 | b,i,x :: xs=>match f b i x with
  | none=>none
  | some (.inl b')=>foldE f e b' (i+1) xs
  | some (.inr r)=>some r

theorem iter_none {σ ρ:Type} {step:σ→Option (σ ⊕ ρ)} {s:σ} (h:step s=none):iter step s=none:=by
 cases hi:iter step s with
 | none=>rfl
 | some r =>
  obtain ⟨n,hn⟩:=iter_some.1 hi
  cases n with
  | zero=>cases hn
  | succ n=>rw [iterN,h] at hn;cases hn

theorem zgw {α β σ ρ:Type} (xs:List α) {step:σ→Option (σ ⊕ ρ)} (S:β→Int→σ) (f:β→Nat→α→Option (β ⊕ ρ)) (e:β→Option ρ)
 (h1:∀ b (i:Nat) x,xs[i]?=some x→step (S b i)=(f b i x).map (Sum.map (fun b'=>S b' ((i:Int)+1)) id))
 (h2:∀ b,step (S b xs.length)=(e b).map .inr) (b:β):iter step (S b 0)=foldE f e b 0 xs:=by
 have key:∀ (suf:List α) (i:Nat) (b:β),xs.drop i=suf→i≤xs.length→iter step (S b i)=foldE f e b i suf:=by
  intro suf
  induction suf with
  | nil =>
   intro i b hd hi
   have:i=xs.length:=by
    have:=congrArg List.length hd
    simp at this;omega
   subst this
   have:=h2 b
   cases he:e b with
   | none=>rw [he] at this;rw [iter_none this,foldE,he]
   | some r=>rw [he] at this;rw [zfa this,foldE,he]
  | cons x suf ih =>
   intro i b hd hi
   have hx:xs[i]?=some x:=by
    have:=congrArg (fun l=>l[0]?) hd
    simpa using this
   have hlt:i < xs.length:=(List.getElem?_eq_some_iff.1 hx).1
   have hd2:xs.drop (i+1)=suf:=by
    have:=congrArg List.tail hd
    simpa using this
   have hs:=h1 b i x hx
   rw [foldE]
   cases hf:f b i x with
   | none=>rw [hf] at hs;rw [iter_none hs]
   | some a =>
    rw [hf] at hs
    cases a with
    | inl b' =>
     rw [zjd (s':=S b' ((i:Int)+1)) hs]
     exact ih (i+1) b' hd2 hlt
    | inr r=>rw [zfa (r:=r) hs]
 exact key xs 0 b rfl (Nat.zero_le _)

theorem iter_eq2 {α ρ:Type} {xs ys:List α} (hl:xs.length=ys.length) {step:Int→Option (Int ⊕ ρ)} (rf rt:ρ) [DecidableEq α]
 (h1:∀ (i:Nat) x y,xs[i]?=some x→ys[i]?=some y→step i=some (if x=y then .inl ((i:Int)+1) else .inr rf))
 (h2:step xs.length=some (.inr rt)):iter step 0=some (if xs=ys then rt else rf):=by
 have key:∀ (s t:List α) (i:Nat),xs.drop i=s→ys.drop i=t→i≤xs.length→iter step (i:Int)=some (if s=t then rt else rf):=by
  intro s
  induction s with
  | nil =>
   intro t i hs ht hi
   have e1:i=xs.length:=by
    have:=congrArg List.length hs
    simp at this;omega
   subst e1
   have e2:t=[]:=by rw [← ht,hl];simp
   subst e2
   rw [zfa h2];simp
  | cons x s ih =>
   intro t i hs ht hi
   have hx:xs[i]?=some x:=by
    have:=congrArg (fun l=>l[0]?) hs
    simpa using this
   have hlt:i < xs.length:=(List.getElem?_eq_some_iff.1 hx).1
   have hy:ys[i]?=some ys[i]:=List.getElem?_eq_getElem (by omega)
   have ht2:t=ys[i] :: ys.drop (i+1):=by rw [← ht];exact List.drop_eq_getElem_cons (by omega)
   have hs2:xs.drop (i+1)=s:=by
    have:=congrArg List.tail hs
    simpa using this
   have h:=h1 i x _ hx hy
   by_cases he:x=ys[i]
   ·rw [if_pos he] at h
    rw [zjd h]
    have:=ih (ys.drop (i+1)) (i+1) hs2 rfl hlt
    rw [show ((i:Int)+1)=((i+1:Nat):Int) from rfl,this,ht2]
    simp only [List.cons.injEq,he,true_and]
   ·rw [if_neg he] at h
    rw [zfa h,ht2]
    simp only [List.cons.injEq,he,false_and,if_false]
 exact key xs ys 0 rfl rfl (Nat.zero_le _)

theorem ba_toList (a:ByteArray):a.toList=a.data.toList:=by
 have key:∀ (n i:Nat) (r:List UInt8),n=a.size - i→ByteArray.toList.loop a i r=r.reverse ++ a.data.toList.drop i:=by
  intro n
  induction n with
  | zero =>
   intro i r h
   rw [ByteArray.toList.loop]
   have:¬ i < a.size:=by omega
   rw [if_neg this]
   have:a.data.toList.drop i=[]:=by
    apply List.drop_eq_nil_of_le
    simp only [Array.length_toList]
    have:a.size=a.data.size:=rfl
    omega
   rw [this];simp
  | succ n ih =>
   intro i r h
   rw [ByteArray.toList.loop]
   have hi:i < a.size:=by omega
   rw [if_pos hi,ih (i+1) _ (by omega)]
   have hs:a.size=a.data.size:=rfl
   have hd:a.data.toList.drop i=a.data.toList[i]'(by simp only [Array.length_toList];omega) :: a.data.toList.drop (i+1):=List.drop_eq_getElem_cons _
   rw [hd,List.reverse_cons,List.append_assoc]
   congr 1
   simp only [List.cons_append,List.nil_append,List.cons.injEq,and_true]
   rw [Array.getElem_toList]
   show ByteArray.get! a i=_
   unfold ByteArray.get!
   exact getElem!_pos a.data i (by omega)
 rw [ByteArray.toList,key (a.size - 0) 0 [] rfl]
 simp
theorem ba_inj {a b:ByteArray} (h:a.toList=b.toList):a=b:=by
 rw [ba_toList,ba_toList] at h
 cases a;cases b
 simp only at h
 congr
 exact Array.toList_inj.1 h
theorem eqS_dec (a b:ByteArray):eqS a b=decide (a=b):=by
 unfold eqS
 by_cases h:a=b
 ·subst h;simp
 ·have:¬ a.toList=b.toList:=fun hh=>h (ba_inj hh)
  simp [h,this]
end Go.Ev


namespace Go.Ev
class Wf (α:Type) where
 wf:α→Prop
open Wf (wf)
instance:Wf Int:=⟨fun n=>-9223372036854775808≤n∧n≤9223372036854775807⟩
instance:Wf Bool:=⟨fun _=>True⟩
instance:Wf ByteArray:=⟨fun s=>s.size≤9223372036854775807⟩
instance {α:Type} [Wf α]:Wf (List α):=⟨fun l=>l.length≤9223372036854775807∧∀ x∈l,wf x⟩
class Sm (α:Type) where
 sm:α→Prop
 lg:α→Prop
 le:∀ x,sm x→lg x
open Sm (sm lg)
instance:Sm Int:=⟨fun _=>True,fun _=>True,fun _ h=>h⟩
instance:Sm ByteArray:=⟨fun s=>s.size≤1048576,fun _=>True,fun _ _=>trivial⟩
instance {α:Type} [Sm α]:Sm (List α):=⟨fun l=>l.length≤1048576∧∀ x∈l,sm x,fun l=>l.length≤1000000000000∧∀ x∈l,lg x,fun l h=>⟨by have:=h.1;omega,fun x hx=>Sm.le x (h.2 x hx)⟩⟩
theorem zee {α:Type} (a b:Int) (x y:α):cond (ltI a b) x y=if a < b then x else y:=zae _ _ _
theorem cond_ne {α:Type} (a b:Int) (x y:α):cond (neI a b) x y=if a=b then y else x:=zdh _ _ _

theorem eqRow {α:Type} [DecidableEq α] {xs ys:List α} {R:Option Bool} {step:Int→Option (Int ⊕ (Unit ⊕ Unit))} (hw:xs.length≤9223372036854775806)
 (h1:∀ (i:Nat) x y,i < xs.length→xs[i]?=some x→ys[i]?=some y→step i=some (if x=y then .inl (addI i 1) else .inr (.inl ())))
 (h2:step xs.length=some (.inr (.inr ())))
 (hR:R=cond (neI (xs.length:Int) (ys.length:Int)) (some false) ((iter step 0).bind fun r=>Sum.elim (fun _=>some false) (fun _=>some true) r)):R=some (decide (xs=ys)):=by
 subst hR
 rw [cond_ne]
 by_cases hl:xs.length=ys.length
 ·rw [if_pos (by exact_mod_cast hl),iter_eq2 hl (Sum.inl ()) (Sum.inr ()) (fun i x y hx hy=>?_) h2]
  ·by_cases h:xs=ys <;> simp [h]
  ·have hi:=(List.getElem?_eq_some_iff.1 hx).1
   rw [h1 i x y hi hx hy,zan (by omega) (by omega)]
 ·have:¬ ((xs.length:Int)=ys.length):=by exact_mod_cast hl
  have h3:xs≠ys:=fun h=>hl (by rw [h])
  rw [if_neg this];simp [h3]

def SzOK (r:Option Int) (S:Prop):Prop:=∃ n,r=some n∧n≤1048576∧(0≤n→S)∧-9223372036854775807≤n
theorem SzOK.imp {r:Option Int} {S T:Prop} (h:SzOK r S) (hi:S→T):SzOK r T:=by
 obtain ⟨n,h1,h2,h3,h4⟩:=h
 exact ⟨n,h1,h2,fun h=>hi (h3 h),h4⟩
theorem SzOK.two {r:Option Int} {S T:Prop} {k:Int→Option Int} (h:SzOK r S) (hk:∀ n,0≤n∧n≤1048576→SzOK (k n) T):SzOK (r.bind fun y=>cond (ltI y 0) (some (-1)) (k y)) (S∧T):=by
 obtain ⟨n,rfl,h2,h3,h4⟩:=h
 rw [Option.bind_some,zee]
 by_cases hn:n < 0
 ·rw [if_pos hn];exact ⟨-1,rfl,by omega,by omega,by omega⟩
 ·rw [if_neg hn]
  exact (hk n ⟨by omega,h2⟩).imp fun t=>⟨h3 (by omega),t⟩
theorem iter_eqRow {α:Type} {ρ:Type} [DecidableEq α] {xs ys:List α} (rf rt:ρ) {step:Int→Option (Int ⊕ ρ)} (hw:xs.length≤9223372036854775806) (hl:xs.length=ys.length)
 (h1:∀ (i:Nat) x y,i < xs.length→xs[i]?=some x→ys[i]?=some y→step i=some (if x=y then .inl (addI i 1) else .inr rf))
 (h2:step xs.length=some (.inr rt)):iter step 0=some (if xs=ys then rt else rf) :=
 iter_eq2 hl rf rt (fun i x y hx hy=>by
  have hi:=(List.getElem?_eq_some_iff.1 hx).1
  rw [h1 i x y hi hx hy,zan (by omega) (by omega)]) h2
end Go.Ev


namespace Go.Ev
open Enc (enc)
open Wf (wf)

instance:Wf U8:=⟨fun _=>True⟩
theorem typed_u8 {P:Program} {t:Nat} {ds:List D} (hu:P.underlying t=some (.int .u8)) (h:Typed P t ds):∃ n:U8,enc n=ds∧wf n:=by
 cases h with
 | int n ht hn =>
  rw [hu] at ht
  cases ht
  exact ⟨⟨n⟩,rfl,trivial⟩
 | bool b ht=>rw [hu] at ht;cases ht
 | string s ht hs=>rw [hu] at ht;cases ht
 | slice ht xs hx hxl hn=>rw [hu] at ht;cases ht
 | struct ht xs hl hx hxl=>rw [hu] at ht;cases ht
theorem typed_slice {α:Type} [Enc α] [Wf α] {P:Program} {t e:Nat} {ds:List D} (hu:P.underlying t=some (.slice e)) (he:∀ ds,Typed P e ds→∃ x:α,enc x=ds∧wf x) (h:Typed P t ds):∃ n:List α,enc n=ds∧wf n:=by
 cases h with
 | int n ht hn=>rw [hu] at ht;cases ht
 | bool b ht=>rw [hu] at ht;cases ht
 | string s ht hs=>rw [hu] at ht;cases ht
 | struct ht xs hl hx hxl=>rw [hu] at ht;cases ht
 | slice ht xs hx hxl hn =>
  rw [hu] at ht
  cases ht
  have key:∀ (l:List (List D)),(∀ x∈l,Typed P e x)→∃ ys:List α,ys.length=l.length∧encL ys=l.flatten∧∀ y∈ys,wf y:=by
   intro l
   induction l with
   | nil=>intro _;exact ⟨[],rfl,rfl,by simp⟩
   | cons d l ih =>
    intro hl
    obtain ⟨ys,h1,h2,h3⟩:=ih fun x hx=>hl x (by simp [hx])
    obtain ⟨y,rfl,hy⟩:=he d (hl d (by simp))
    refine ⟨y :: ys,by simp [h1],by simp [h2],fun z hz=>?_⟩
    rcases List.mem_cons.1 hz with rfl | hz
    ·exact hy
    ·exact h3 z hz
  obtain ⟨ys,h1,h2,h3⟩:=key xs hx
  refine ⟨ys,by simp [h1,h2],?_,h3⟩
  have:maxLen=9223372036854775807:=by decide
  rw [h1,← this];exact hn
end Go.Ev


namespace Go.Ev

def flatT (d:Nat):Tag→Tag
 | .at (.slot e i) p=>if e=d+1 then .at (.slot 1 i) p else .foreign
 | _=>.foreign
def handed (d:Nat):Option Tag→Bool
 | some (.at (.slot e _) _)=>decide (e=d+1)
 | _=>false
def Gh.flat (G:Gh) (n d:Nat):Gh:={ G with own:=fun b=>(G.own b).map (flatT d),live:=fun _=>False,age:=fun b=>if b < n then (if handed d (G.own b) then 1 else 0) else 1 }
def retOnly:Option Tag→Option Tag
 | some (.at .ret p)=>some (.at .ret p)
 | none=>none
 | _=>some .foreign

theorem zkv (d:Nat) (t:Tag):(∀ k,flatT d t≠.box k)∧(∀ k p,flatT d t≠.at (.cell k) p)∧∀ p,flatT d t≠.at .ret p:=by
 cases t with
 | foreign=>simp [flatT]
 | box k=>simp [flatT]
 | «at» o p =>
  cases o with
  | slot e i=>simp only [flatT];split <;> simp
  | cell k=>simp [flatT]
  | ret=>simp [flatT]
theorem zog {d:Nat} {o:Option Tag} (h:handed d o=false):¬ touch 1 (o.map (flatT d)):=by
 cases o with
 | none=>exact fun h=>h
 | some t =>
  cases t with
  | foreign=>exact fun h=>h
  | box k=>exact fun h=>h
  | «at» o p =>
   cases o with
   | slot e i =>
    simp only [handed,decide_eq_false_iff_not] at h
    simp only [Option.map_some,flatT,if_neg h]
    exact fun h=>h
   | cell k=>exact fun h=>h
   | ret=>exact fun h=>h

theorem po_call {P:Program} {f:Nat} {args:List AV} {m:Mem} {r:AV} (h:CallE P 0 f args mem0 m r) (hk:∀ x∈args,x.killB=x∧x.data?=true) (hr:r.own?=true∨r.data?=true) {d:Nat} {mem:Mem}
 (hdep:∀ k,(mem k).isSome=true→k.1≤d) (hB:∀ k,(mem k).map (List.map C.killB)=mem k):CallE P d f args mem mem r:=by
 refine ⟨h.1,fun G w vals hsz hargs hM _=>?_⟩
 have hM0:MemOK 1 (G.flat w.heap.size d) mem0 w:={
  cells:=fun k cs hk=>by cases hk
  live:=fun k=>⟨fun hh=>hh.elim,fun hh=>by cases hh⟩
  dep:=fun k hk=>hk.elim
  wf:=fun b t hb=>by
   have hb:(G.own b).map (flatT d)=some t:=hb
   rw [Option.map_eq_some_iff] at hb
   obtain ⟨t0,h0,_⟩:=hb
   exact hM.wf b t0 h0
  wfb:=fun b k hb=>by
   have hb:(G.own b).map (flatT d)=some (.box k):=hb
   rw [Option.map_eq_some_iff] at hb
   obtain ⟨t0,_,h1⟩:=hb
   exact absurd h1 ((zkv d t0).1 k)
  wfc:=fun b k p hb=>by
   have hb:(G.own b).map (flatT d)=some (.at (.cell k) p):=hb
   rw [Option.map_eq_some_iff] at hb
   obtain ⟨t0,_,h1⟩:=hb
   exact absurd h1 ((zkv d t0).2.1 k p)
  age:=fun b=>by
   show (if b < w.heap.size then (if handed d (G.own b) then 1 else 0) else 1)≤1
   split
   ·split <;> omega
   ·omega
  fut:=fun b hb=>by
   show (if b < w.heap.size then (if handed d (G.own b) then 1 else 0) else 1)=1
   rw [if_neg (by omega)]
  aged:=fun b t hb=>by
   have hb:(G.own b).map (flatT d)=some t:=hb
   rw [Option.map_eq_some_iff] at hb
   obtain ⟨t0,h0,rfl⟩:=hb
   have hlt:=hM.wf b t0 h0
   show (flatT d t0).dep 1≤if b < w.heap.size then (if handed d (G.own b) then 1 else 0) else 1
   rw [if_pos hlt,h0]
   cases t0 with
   | foreign=>exact Nat.zero_le _
   | box k=>exact Nat.zero_le _
   | «at» o p =>
    cases o with
    | slot e i =>
     by_cases he:e=d+1
     ·simp [flatT,handed,he,Tag.dep,Ow.dep]
     ·simp [flatT,handed,he,Tag.dep]
    | cell k=>exact Nat.zero_le _
    | ret=>exact Nat.zero_le _ }
 have hargs0:∀ (i:Nat) x,args[i]?=some x→∃ v,vals[i]?=some v∧RA w (G.flat w.heap.size d) (.slot (0+1) i) x v:=fun i x hi=>by
  obtain ⟨v,hv,hra⟩:=hargs i x hi
  obtain ⟨h1,h2⟩:=hk x (List.mem_of_getElem? hi)
  refine ⟨v,hv,?_⟩
  have hrn:Rn G { G.flat w.heap.size d with live:=G.live } (.slot (d+1) i) [] (.slot 1 i) [] :=
   ⟨fun b q hq=>⟨by show (G.own b).map (flatT d)=_;rw [hq];simp [flatT],rfl⟩,fun b hb=>⟨by show (G.own b).map (flatT d)=_;rw [hb];rfl,Nat.le_refl _⟩,fun k hk=>⟨hk,rfl,rfl⟩⟩
  have:=hrn.ra hra
  rw [h1] at this
  exact RA_res (G0:=G.flat w.heap.size d) this (fun b q hq=>⟨hq,rfl⟩) (.inr ⟨h2,fun b hb=>⟨hb,Nat.le_refl _⟩⟩)
 refine (h.2 (G.flat w.heap.size d) w vals hsz hargs0 hM0 fun hl=>hl.elim).mono fun e w' he=>?_
 obtain ⟨v,G0',rfl,hRA,hM',hF⟩:=he
 let own':Nat→Option Tag:=fun b=>if (decide (b < w.heap.size) && !handed d (G.own b))=true then G.own b else retOnly (G0'.own b)
 let G':Gh:={ own:=own',use:=G0'.use,β:=G.β,live:=G.live,age:=fun b=>min (G.age b) d,cap:=G.cap }
 have hold:∀ b,b < w.heap.size→handed d (G.own b)=false→G'.own b=G.own b:=fun b hb hh=>by
  show own' b=_
  simp only [own',hb,hh,decide_true,Bool.not_false,Bool.and_self,if_true]
 have hnew:∀ b,¬ (b < w.heap.size∧handed d (G.own b)=false)→G'.own b=retOnly (G0'.own b):=fun b hb=>by
  show own' b=_
  have:(decide (b < w.heap.size) && !handed d (G.own b))=false:=by
   cases hlt:decide (b < w.heap.size) with
   | false=>rfl
   | true =>
    cases hh:handed d (G.own b) with
    | true=>rfl
    | false=>exact absurd ⟨by simpa using hlt,hh⟩ hb
  simp only [own',this,Bool.false_eq_true,if_false]
 have hret:∀ o t,retOnly o=some t→(∃ t0,o=some t0)∧(t=.foreign∨∃ p,t=.at .ret p):=fun o t ho=>by
  unfold retOnly at ho
  split at ho
  ·cases ho;exact ⟨⟨_,rfl⟩,.inr ⟨_,rfl⟩⟩
  ·cases ho
  ·rename_i hn1 hn2
   cases ho
   cases o with
   | none=>exact absurd rfl hn2
   | some t0=>exact ⟨⟨t0,rfl⟩,.inl rfl⟩
 have hsame:∀ b,b < w.heap.size→handed d (G.own b)=false→w'.heap[b]?=w.heap[b]?∧G0'.own b=(G.own b).map (flatT d)∧G0'.use b=G.use b:=fun b hb hh=>hF.same b hb (zog hh)
 have hyoung:∀ b,G.age b < d+1→handed d (G.own b)=false:=fun b ha=>by
  cases ho:G.own b with
  | none=>rfl
  | some t =>
   have:=hM.aged b t ho
   cases t with
   | foreign=>rfl
   | box k=>rfl
   | «at» o p =>
    cases o with
    | slot e i =>
     have:e≤G.age b:=this
     simp only [handed,decide_eq_false_iff_not]
     omega
    | cell k=>rfl
    | ret=>rfl
 have hage0:∀ b,b < w.heap.size→handed d (G.own b)=false→(G.flat w.heap.size d).age b < 0+1:=fun b hb hh=>by
  show (if b < w.heap.size then (if handed d (G.own b) then 1 else 0) else 1) < 0+1
  rw [if_pos hb,hh]
  exact Nat.zero_lt_one
 have hnobox:∀ b k,(G.flat w.heap.size d).own b≠some (.box k):=fun b k hb=>by
  have hb:(G.own b).map (flatT d)=some (.box k):=hb
  rw [Option.map_eq_some_iff] at hb
  obtain ⟨t0,_,h1⟩:=hb
  exact (zkv d t0).1 k h1
 have hbox':∀ b,(∀ k,G.own b≠some (.box k))→∀ k,G'.own b≠some (.box k):=fun b hk k hb=>by
  by_cases hc:b < w.heap.size∧handed d (G.own b)=false
  ·rw [hold b hc.1 hc.2] at hb;exact hk k hb
  ·rw [hnew b hc] at hb
   rcases (hret _ _ hb).2 with h | ⟨p,h⟩ <;> cases h
 have hF':Frm (d+1) G w G' w':={
  size:=hF.size
  kept:=hF.kept
  same:=fun b hb ht=>by
   have hh:handed d (G.own b)=false:=by
    cases ho:G.own b with
    | none=>rfl
    | some t =>
     rw [ho] at ht
     cases t with
     | foreign=>rfl
     | box k=>rfl
     | «at» o p =>
      cases o with
      | slot e i =>
       have:¬ d+1≤e:=ht
       simp only [handed,decide_eq_false_iff_not]
       omega
      | cell k=>rfl
      | ret=>rfl
   exact ⟨(hsame b hb hh).1,hold b hb hh,(hsame b hb hh).2.2⟩
  age:=fun b hb ha=>by show min (G.age b) d=G.age b;omega
  box:=fun b hb ha hk=>hbox' b hk
  use:=fun b hb ha=>by
   show G.use b≤G0'.use b
   rw [(hsame b hb (hyoung b ha)).2.2]
   exact Nat.le_refl _
  cell:=fun b off hb ha hk hu=>by unfold World.cell?;simp only [(hsame b hb (hyoung b ha)).1]
  live:=fun k hk _=>⟨hk,rfl,rfl⟩
  back:=fun k _ hk=>.inl hk
  up:=fun b hb=>by show d+1≤min (G.age b) d+1;omega }
 refine ⟨v,G',rfl,RA_res hRA (fun b q hq=>?_) (hr.imp id fun h=>⟨h,fun b hb=>⟨?_,Nat.le_refl _⟩⟩),?_,hF'⟩
 ·refine ⟨?_,rfl⟩
  by_cases hc:b < w.heap.size∧handed d (G.own b)=false
  ·rw [(hsame b hc.1 hc.2).2.1,Option.map_eq_some_iff] at hq
   obtain ⟨t0,_,h1⟩:=hq
   exact absurd h1 ((zkv d t0).2.2 q)
  ·rw [hnew b hc,hq];rfl
 ·by_cases hc:b < w.heap.size∧handed d (G.own b)=false
  ·rw [hold b hc.1 hc.2]
   have:=(hsame b hc.1 hc.2).2.1
   rw [hb] at this
   cases ho:G.own b with
   | none=>rfl
   | some t=>rw [ho] at this;cases this
  ·rw [hnew b hc,hb];rfl
 ·have hview:∀ k,Hands w { G with own:=fun b=>if handed d (G.own b) then some (Tag.box (0,0)) else G.own b } w' G' (.cell k) [] (.cell k) [] fun _=>false:=fun k=>by
   have hv:∀ b,(∀ k,(if handed d (G.own b) then some (Tag.box (0,0)) else G.own b)≠some (.box k))→handed d (G.own b)=false∧(if handed d (G.own b) then some (Tag.box (0,0)) else G.own b)=G.own b:=fun b hb=>by
    cases hh:handed d (G.own b) with
    | true=>have:=hb (0,0);rw [hh,if_pos rfl] at this;exact absurd rfl this
    | false=>exact ⟨rfl,by simp⟩
   refine { tag:=fun b q hb ht=>?_,nil:=fun b hb hn=>?_,nilh:=fun b hb hn=>(hsame b hb (hv b (by have hn:(if handed d (G.own b) then some (Tag.box (0,0)) else G.own b)=_:=hn;rw [hn];simp)).1).1,box:=fun b hb hk=>?_,use:=fun b hb hk=>?_,cell:=fun b off hb hk hu=>?_,live:=fun k hk _=>⟨hk,rfl,rfl⟩ }
   ·obtain ⟨hh,he⟩:=hv b (by have ht:(if handed d (G.own b) then some (Tag.box (0,0)) else G.own b)=_:=ht;rw [ht];simp)
    have ht:(if handed d (G.own b) then some (Tag.box (0,0)) else G.own b)=_:=ht
    rw [he] at ht
    exact ⟨(hold b hb hh).trans ht,(hsame b hb hh).2.2,(hsame b hb hh).1⟩
   ·obtain ⟨hh,he⟩:=hv b (by have hn:(if handed d (G.own b) then some (Tag.box (0,0)) else G.own b)=_:=hn;rw [hn];simp)
    have hn:(if handed d (G.own b) then some (Tag.box (0,0)) else G.own b)=_:=hn
    rw [he] at hn
    exact (hold b hb hh).trans hn
   ·obtain ⟨hh,he⟩:=hv b hk
    exact hbox' b (by rw [← he];exact hk)
   ·obtain ⟨hh,he⟩:=hv b hk
    show G.use b≤G0'.use b
    rw [(hsame b hb hh).2.2]
    exact Nat.le_refl _
   ·obtain ⟨hh,he⟩:=hv b hk
    unfold World.cell?
    simp only [(hsame b hb hh).1]
  have hrn:∀ k p,Rn G { G with own:=fun b=>if handed d (G.own b) then some (Tag.box (0,0)) else G.own b } (.cell k) p (.cell k) p:=fun k p =>
   ⟨fun b q hq=>⟨by show (if handed d (G.own b) then some (Tag.box (0,0)) else G.own b)=_;rw [hq];rfl,rfl⟩,fun b hb=>⟨by show (if handed d (G.own b) then some (Tag.box (0,0)) else G.own b)=_;rw [hb];rfl,Nat.le_refl _⟩,fun k hk=>⟨hk,rfl,rfl⟩⟩
  exact {
   cells:=fun k cs hk hn2=>by
    obtain ⟨arr,e,h1,h2,h2c,h3⟩:=hM.cells k cs hk hn2
    have hb:=hM.wf _ _ h2
    have hh:handed d (G.own (G.β k))=false:=by rw [h2];rfl
    refine ⟨arr,e,by rw [← h1];exact (hsame _ hb hh).1,by rw [← h2];exact hold _ hb hh,h2c,?_⟩
    have hcs:cs.map C.killB=cs:=by
     have:=hB k
     rw [hk] at this
     simpa using this
    have:=zgt (fun j=>hrn k ([] ++ [j])) h3
    rw [hcs] at this
    exact (hview k).rcs0 this
   live:=hM.live
   dep:=fun k hk=>hdep k ((hM.live k).1 hk)
   wf:=fun b t hb=>by
    by_cases hc:b < w.heap.size∧handed d (G.own b)=false
    ·have:=hF.size;omega
    ·rw [hnew b hc] at hb
     obtain ⟨⟨t0,h0⟩,_⟩:=hret _ _ hb
     exact hM'.wf b t0 h0
   wfb:=fun b k hb=>by
    by_cases hc:b < w.heap.size∧handed d (G.own b)=false
    ·rw [hold b hc.1 hc.2] at hb;exact hM.wfb b k hb
    ·rw [hnew b hc] at hb
     rcases (hret _ _ hb).2 with h | ⟨p,h⟩ <;> cases h
   wfc:=fun b k p hb=>by
    by_cases hc:b < w.heap.size∧handed d (G.own b)=false
    ·rw [hold b hc.1 hc.2] at hb;exact hM.wfc b k p hb
    ·rw [hnew b hc] at hb
     rcases (hret _ _ hb).2 with h | ⟨p,h⟩ <;> cases h
   age:=fun b=>Nat.min_le_right _ _
   fut:=fun b hb=>by
    show min (G.age b) d=d
    have:=hM.fut b (Nat.le_trans hF.size hb)
    omega
   aged:=fun b t hb=>by
    show t.dep d≤min (G.age b) d
    by_cases hc:b < w.heap.size∧handed d (G.own b)=false
    ·rw [hold b hc.1 hc.2] at hb
     have ha:=hM.aged b t hb
     have hle:=hM.age b
     cases t with
     | foreign=>exact Nat.zero_le _
     | box k =>
      have h1:=hdep k ((hM.live k).1 (hM.wfb b k hb).1)
      have ha:k.1≤G.age b:=ha
      show k.1≤_
      omega
     | «at» o p =>
      cases o with
      | slot e i =>
       have ha:e≤G.age b:=ha
       have hh:=hc.2
       rw [hb] at hh
       simp only [handed,decide_eq_false_iff_not] at hh
       show e≤_
       omega
      | cell k =>
       have h1:=hdep k ((hM.live k).1 (hM.wfc b k p hb))
       have ha:k.1≤G.age b:=ha
       show k.1≤_
       omega
      | ret =>
       have ha:d+1≤G.age b:=ha
       show d≤_
       omega
    ·rw [hnew b hc] at hb
     have hge:d≤G.age b:=by
      by_cases hlt:b < w.heap.size
      ·have:handed d (G.own b)=true:=by
        cases hh:handed d (G.own b) with
        | true=>rfl
        | false=>exact absurd ⟨hlt,hh⟩ hc
       rcases Nat.lt_or_ge (G.age b) (d+1) with h1 | h1
       ·rw [hyoung b h1] at this;cases this
       ·omega
      ·rw [hM.fut b (by omega)];omega
     rcases (hret _ _ hb).2 with rfl | ⟨p,rfl⟩
     ·exact Nat.zero_le _
     ·show d≤_
      omega }

theorem PO.of_ev {g:Cfg} (hctx:CtxOK g) {f:Nat} {F:List AV→Option AV} (hn:lookN f g.ctx=none∧lookN f g.pctx=none) (h:∀ args r,F args=some r→(∃ m,callo g 0 f args mem0=some (r,m))∧(∀ x∈args,x.killB=x∧x.data?=true)∧r.own?=true):PO g.P f F:=by
 intro args r hF d mem hdep hB
 obtain ⟨⟨m,hm⟩,h2,h3⟩:=h args r hF
 exact po_call (sound_calloE hctx hn.1 hn.2 hm) h2 (.inl h3) hdep hB

end Go.Ev


namespace Go.Ev

theorem zqd (d:D):(C.ofD .own d).killB=C.ofD .own d∧(C.ofD .own d).data?=true:=by
 cases d <;> exact ⟨rfl,rfl⟩
theorem av_own {α:Type} [Enc α] (x:α):(av .own x).killB=av .own x∧(av .own x).data?=true:=by
 unfold av
 cases ha:Enc.agg α with
 | true =>
  simp only [zqu,AV.killB,AV.data?]
  refine ⟨?_,?_⟩
  ·congr 1
   rw [List.map_map]
   exact List.map_congr_left fun d _=>(zqd d).1
  ·rw [List.all_eq_true]
   intro c hc
   obtain ⟨d,_,rfl⟩:=List.mem_map.1 hc
   exact (zqd d).2
 | false =>
  obtain ⟨d,hd⟩:=zpw (α:=α) ha x
  rw [hd]
  exact ⟨congrArg AV.one (zqd d).1,(zqd d).2⟩
class OArgs (X:Type) where
 args:X→List AV
 inj:∀ x y,args x=args y→x=y
 data:∀ x,∀ a∈args x,a.killB=a∧a.data?=true
instance:OArgs Unit where
 args _:=[]
 inj _ _ _:=rfl
 data _ a h:=by cases h
instance {α β:Type} [Enc α] [OArgs β]:OArgs (α × β) where
 args x:=av .own x.1 :: OArgs.args x.2
 inj x y h:=by
  simp only [List.cons.injEq] at h
  exact Prod.ext (av_inj h.1) (OArgs.inj _ _ h.2)
 data x a h:=by
  rcases List.mem_cons.1 h with rfl | h
  ·exact av_own _
  ·exact OArgs.data x.2 a h
@[reducible] def AllPO (P:Program):List (Nat × (List AV→Option AV))→Prop
 | []=>True
 | x :: r=>PO P x.1 x.2∧AllPO P r
@[reducible] def AllPX (P:Program):List (Nat × (List C→List AV→Option (AV × List C)))→Prop
 | []=>True
 | x :: r=>PX P x.1 x.2∧AllPX P r
@[reducible] def AllBC (P:Program):List (Nat × (List AV→Option (List C)))→Prop
 | []=>True
 | x :: r=>BC P x.1 x.2∧AllBC P r
theorem zfp {g:Cfg} (l:List (Nat × (List AV→Option AV))) (hl:g.ctx=l) (h:AllPC g.P l) (lo:List (Nat × (List AV→Option AV))) (ho:g.octx=lo) (h2:AllPO g.P lo) (lb:List (Nat × (List AV→Option (List C))):=[]) (hb:g.bctx=lb:=by rfl) (h3:AllBC g.P lb:=by trivial) (lp:List (Nat × (List C→List AV→Option (AV × List C))):=[]) (hp:g.pctx=lp:=by rfl) (h4:AllPX g.P lp:=by trivial):CtxOK g:=by
 refine ⟨fun f F hf=>?_,fun f F hf=>?_,fun f F hf=>?_,fun f F hf=>?_⟩
 ·rw [hl] at hf
  clear hl
  induction l with
  | nil=>cases hf
  | cons x r ih =>
   simp only [lookN] at hf
   split at hf
   ·rename_i he
    cases hf
    exact he ▸ h.1
   ·exact ih h.2 hf
 ·rw [ho] at hf
  clear ho
  induction lo with
  | nil=>cases hf
  | cons x r ih =>
   simp only [lookN] at hf
   split at hf
   ·rename_i he
    cases hf
    exact he ▸ h2.1
   ·exact ih h2.2 hf
 ·rw [hb] at hf
  clear hb
  induction lb with
  | nil=>cases hf
  | cons x r ih =>
   simp only [lookN] at hf
   split at hf
   ·rename_i he
    cases hf
    exact he ▸ h3.1
   ·exact ih h3.2 hf
 ·rw [hp] at hf
  clear hp
  induction lp with
  | nil=>cases hf
  | cons x r ih =>
   simp only [lookN] at hf
   split at hf
   ·rename_i he
    cases hf
    exact he ▸ h4.1
   ·exact ih h4.2 hf

section
variable {α β R:Type} [Enc α] [Enc β] [Res R]
end

def FnEndD (P:Program) (d:Nat) (l:List ResultVar) (gl:List Gho) (r:AV) (Q:Mem→Prop) (o:Option Out):Prop:=∃ m,finK P d l gl o=some (r,m)∧Q m
theorem start_D {g:Cfg} {P:Program} {f:Nat} {args:List AV} {mem:Mem} {d:Nat} {fn:Func} {r:AV} {Q:Mem→Prop} (c:Code) (l:List ResultVar) (h0:lookN f g.ctx=none) (hP:g.P=P) (h1:P.funcs[f]?=some fn) (h2:fn.body=some c) (h3:fnOK g f fn=true)
 (h4:args.length≤fn.ntmps) (h5:fn.results.toList=l) (h:∀ QV,QV=Q→Goal (FnEndD P d l ((lookK (f,atEnd) g.gho).getD []) r QV) (evk g (d+1) f c [] { env:=fun t=>(args[t]?).getD .dead,mem })):∃ m,callo g d f args mem=some (r,m)∧Q m:=by
 rw [zkw l h0 hP h1 h2 h3 h4 h5]
 exact h _ rfl
theorem kill_twice (p:Key→Bool) (c:C):(c.kill p).kill p=c.kill p:=by
 cases c with
 | ptr k off=>cases h:p k <;> simp [C.kill,h]
 | fn f caps=>cases h:caps.any (fun c=>p c.1) <;> simp only [C.kill,h,if_true,if_false,Bool.false_eq_true]
 | bs k n sz=>cases h:p k <;> simp [C.kill,h]
 | _=>rfl
theorem zbg (d:Nat) (m:Mem):Tight d (memKill (fun k=>decide (d < k.1)) m):=by
 unfold Tight
 funext k
 unfold memKill
 split
 ·rfl
 ·cases m k with
  | none=>rfl
  | some cs =>
   simp only [Option.map_some,List.map_map]
   congr 1
   exact List.map_congr_left fun c _=>kill_twice _ c
theorem zbi {d:Nat} {L L':List Key} {m:Mem} (hn:NoBox L' m) (h:∀ x∈L',¬ d < x.1→x∈L):NoBox L (memKill (fun k=>decide (d < k.1)) m):=fun k hk=>by
 unfold memKill
 split
 ·rfl
 ·rename_i hd
  rw [hn k fun hk2=>hk (h k hk2 (by simpa using hd))]
  rfl
theorem zbv {d:Nat} {m:Mem} {K:Key} (h:Tight d m):Tight d (fun k=>if k=K then Option.none else Option.map (List.map (C.kill fun x=>x == K)) (m k)):=by
 have he:(fun k=>if k=K then Option.none else Option.map (List.map (C.kill fun x=>x == K)) (m k))=memKill (fun x=>x == K) m:=by
  funext k
  unfold memKill
  by_cases hk:k=K <;> simp [hk]
 rw [he]
 unfold Tight at h ⊢
 rw [zlv,h]
@[simp] theorem markMem_false (d:Nat) (m:Mem):markMem false d m=m:=rfl
def AgreeX (d:Nat) (K:Key) (mem m:Mem):Prop:=∀ k:Key,k.1≤d→k≠K→m k=mem k
theorem AgreeX.upd {d:Nat} {K K':Key} {mem m:Mem} {v:Option (List C)} (h:AgreeX d K mem m) (hk:d < K'.1):AgreeX d K mem (Ev.upd m K' v):=fun k h1 h2=>by
 unfold Ev.upd
 rw [if_neg (by rintro rfl;omega)]
 exact h k h1 h2
theorem AgreeX.fin {d:Nat} {K:Key} {mem m:Mem} {cs:List C} (h:AgreeX d K mem m) (hk:m K=some cs):Agree d (Ev.upd mem K (some cs)) m:=fun k h1=>by
 unfold Ev.upd
 by_cases he:k=K
 ·subst he;rw [if_pos rfl];exact hk
 ·rw [if_neg he];exact h k h1 he
theorem exV {α:Type} (a:α):∃ x,x=a:=⟨a,rfl⟩
def uL {α:Type} [Enc α] (m:Md) (x:List α):AV:=.one (.l m x.length (encL x))
def uI (x:Int):AV:=.one (.s (.int .i64 x))
def uB (x:Bool):AV:=.one (.s (.bool x))
def uP (k:Key):AV:=.one (.ptr k 0)
def cL {α:Type} [Enc α] (m:Md) (x:List α):C:=.l m x.length (encL x)
def cI (x:Int):C:=.s (.int .i64 x)
def cB (x:Bool):C:=.s (.bool x)
theorem cfg_s {g:Cfg} {P:Program} {take:List (Nat × Nat)} {keep:List ((Nat × Nat) × Kp)} {gho:List ((Nat × Nat) × List Gho)} {ctx octx:List (Nat × (List AV→Option AV))} {bctx:List (Nat × (List AV→Option (List C)))} {ro give:List (Nat × Nat)} {away:List (Nat × Nat × Nat)} {deep:List Nat} {pctx:List (Nat × (List C→List AV→Option (AV × List C)))} (h:g={ P,take,keep,gho,ctx,ro,away,give,octx,bctx,deep,pctx }) :
 g.P=P∧g.ctx=ctx∧g.take=take∧g.gho=gho∧g.ro=ro∧g.away=away∧g.give=give∧g.octx=octx∧g.deep=deep∧g.bctx=bctx∧g.pctx=pctx:=by
 subst h
 exact ⟨rfl,rfl,rfl,rfl,rfl,rfl,rfl,rfl,rfl,rfl,rfl⟩
abbrev Pl1 (g:Cfg):Prop:=g.gho=[]∧g.ro=[]∧g.away=[]∧g.give=[]∧g.octx=[]
abbrev Pl0 (g:Cfg):Prop:=g.take=[]∧Pl1 g
attribute [simp] uL uI uB uP cL cI cB Pl0 Pl1 s_giveT giveV_some Cfg.leaves deepK
end Go.Ev


namespace Go.Ev
instance:Res Unit where
 res _:=.tu []
 own _:=rfl
@[simp] theorem res_unit (x:Unit):Res.res x=.tu []:=rfl
def bxT {T:Type} [Enc T] (x:T):List C:=(Enc.enc x).map (C.ofD .shr)
theorem bxT_inj {T:Type} [Enc T] {x y:T} (h:bxT x=bxT y):x=y:=Enc.inj _ _ (zlm h)
theorem bxT_ne {T:Type} [Enc T] (x:T):bxT x≠[]:=fun h=>by
 have h1:=congrArg List.length h
 have h2:=Enc.len x
 have h3:=Enc.pos (α:=T)
 simp only [bxT,List.length_map,List.length_nil] at h1
 omega
theorem znw {T:Type} [Enc T] (x:T):(bxT x).all C.shr?=true:=by
 rw [List.all_eq_true]
 intro c hc
 obtain ⟨d,_,rfl⟩:=List.mem_map.1 hc
 cases d <;> rfl
open Classical in
def specX {T X R:Type} [Enc T] [Args X] [Res R] (F:X→T→Option (R × T)):List C→List AV→Option (AV × List C):=fun cs az_ =>
 if h:∃ p:T × X,bxT p.1=cs∧Args.args p.2=az_ then (F (Classical.choose h).2 (Classical.choose h).1).map fun y=>(Res.res y.1,bxT y.2) else none
theorem zht {T X R:Type} [Enc T] [Args X] [Res R] {F:X→T→Option (R × T)} {x:X} {t:T} {y:R × T} (h:F x t=some y):specX F (bxT t) (Args.args x)=some (Res.res y.1,bxT y.2):=by
 unfold specX
 have hx:∃ p:T × X,bxT p.1=bxT t∧Args.args p.2=Args.args x:=⟨(t,x),rfl,rfl⟩
 rw [dif_pos hx]
 obtain ⟨h1,h2⟩:=Classical.choose_spec hx
 rw [bxT_inj h1,Args.inj _ _ h2,h]
 rfl
theorem px_of {g:Cfg} {T X R:Type} [Enc T] [Args X] [Res R] {F:X→T→Option (R × T)} {f:Nat} (hctx:CtxOK g) (hE:Enters g.P f)
 (h:∀ x t y,F x t=some y→∃ m,callo g 0 f (.one (.ptr (0,0) 0) :: Args.args x) (upd mem0 (0,0) (some (bxT t)))=some (Res.res y.1,m)∧(m (0,0)=some (bxT y.2)∧NoBox [(0,0)] m)):PX g.P f (specX F):=by
 refine PX.of_ev hctx hE fun cs la r cs' hF=>?_
 unfold specX at hF
 split at hF
 ·rename_i hx
  obtain ⟨h1,h2⟩:=Classical.choose_spec hx
  obtain ⟨y,hy,he⟩:=Option.map_eq_some_iff.1 hF
  simp only [Prod.mk.injEq] at he
  obtain ⟨rfl,rfl⟩:=he
  obtain ⟨m,hm,hk,hn⟩:=h _ _ _ hy
  rw [h1,h2] at hm
  refine ⟨h1 ▸ bxT_ne _,h1 ▸ znw _,znw _,bxT_ne _,.inl (Res.own _),?_⟩
  rw [hm]
  congr 2
  funext k
  by_cases hkk:k=(0,0)
  ·subst hkk;rw [hk];simp [upd]
  ·rw [hn k (by simp [hkk])];simp [upd,hkk,mem0]
 ·cases hF
theorem zgi (K:Key) (v:Option (List C)):NoBox [K] (upd mem0 K v):=fun k hk=>by
 unfold upd mem0
 rw [if_neg (by simpa using hk)]
def PxOK (g:Cfg) (k:Nat) (F:List C→List AV→Option (AV × List C)):Prop:=lookN k g.ctx=none∧lookN k g.pctx=some F∧∃ fn c,g.P.funcs[k]?=some fn∧fn.body=some c
theorem callo_px {g:Cfg} {k:Nat} {F:List C→List AV→Option (AV × List C)} (h:PxOK g k F) (d:Nat) (args:List AV) (mem:Mem):callo g d k args mem=pxCall g.near d args mem (some F):=by
 obtain ⟨h0,hp,fn,c,hf,hb⟩:=h
 rw [zmj,h0]
 simp only [hf,hb]
 have:fnOK g k fn=false:=by unfold fnOK;rw [hp];simp
 rw [this,hp]
 rfl
theorem zal {g:Cfg} {d f:Nat} {T:Option Out→Prop} {ops:Array Oper} {dst:Option Nat} {l:List Oper} {K:List It} {env:Nat→AV} {k:Nat} {args az_:List AV} {mem:Mem} {F:List C→List AV→Option (AV × List C)} {cs cs':List C} {r:AV} (B:Key)
 (hF:F cs az_=some (r,cs')) (hx:PxOK g k F) (ha:args=.one (.ptr B 0) :: az_) (hs:az_.all AV.shr?=true) (hm:mem B=some cs) (hfar:g.near=true∨(B.1≠d∨adoptK≤B.2))
 (h2:Goal T (opsK g d f ops l K { env:=putD env dst r,mem:=upd mem B (some cs') })):Goal T (retK g d f ops dst l K env (callo g d k args mem)):=by
 subst ha
 rw [callo_px hx]
 unfold pxCall
 have hc:(az_.all AV.shr? && (g.near || decide (B.1≠d∨adoptK≤B.2)))=true:=by rw [hs,Bool.true_and,Bool.or_eq_true,decide_eq_true_eq];exact hfar
 simp only [hc,if_true,hm,Option.bind_some,hF]
 exact h2

open Classical in
def specN {X T:Type} [Enc T] [Args X] (F:X→Option T):List AV→Option (List C):=fun az_=>if h:∃ x,Args.args x=az_ then (F (Classical.choose h)).map bxT else none
theorem specN_eq {X T:Type} [Enc T] [Args X] {F:X→Option T} {x:X} {y:T} (h:F x=some y):specN F (Args.args x)=some (bxT y):=by
 unfold specN
 have hx:∃ z,Args.args z=Args.args x:=⟨x,rfl⟩
 rw [dif_pos hx,Args.inj _ _ (Classical.choose_spec hx),h]
 rfl
theorem bc_of {g:Cfg} {X T:Type} [Enc T] [Args X] {F:X→Option T} {f t t0:Nat} {fn:Func} {c:Code} (hctx:CtxOK g) (hf:g.P.funcs[f]?=some fn) (hb:fn.body=some c) (hok:fnOK g f fn=true) (hres:fn.results.toList=[.tmp t]) (hlen:∀ x:X,(Args.args x).length≤fn.ntmps)
 (h:∀ x y,F x=some y→∃ out σ,evo g 1 f c { env:=fun t=>((Args.args x)[t]?).getD .dead,mem:=mem0 }=some out∧out.done=some σ∧σ.env t=.one (.ptr (1,t0) 0)∧σ.mem (1,t0)=some (bxT y)):BC g.P f (specN F):=by
 refine BC.of_ev (t:=t) (t0:=t0) hctx hf hb hok hres fun az_ cs hF=>?_
 unfold specN at hF
 split at hF
 ·rename_i hx
  have h2:=Classical.choose_spec hx
  obtain ⟨y,hy,rfl⟩:=Option.map_eq_some_iff.1 hF
  have h3:=h _ _ hy
  have h4:=hlen (Classical.choose hx)
  rw [h2] at h3 h4
  exact ⟨h4,bxT_ne _,znw _,h3⟩
 ·cases hF
def FnEndN (t:Nat) (K:Key) (cs:List C) (o:Option Out):Prop:=∃ out σ,o=some out∧out.done=some σ∧σ.env t=.one (.ptr K 0)∧σ.mem K=some cs
theorem start_N {g:Cfg} {f t:Nat} {K:Key} {cs:List C} {c:Code} {σ:St} (h:Goal (FnEndN t K cs) (evk g 1 f c [] σ)):∃ out τ,evo g 1 f c σ=some out∧out.done=some τ∧τ.env t=.one (.ptr K 0)∧τ.mem K=some cs:=by
 rw [zqp]
 exact h
theorem zqk {g:Cfg} {d f:Nat} {T:Option Out→Prop} {ops:Array Oper} {t:Nat} {l:List Oper} {K:List It} {σ:St} {k:Nat} {args:List Operand} {as' az_:List AV} {F:List AV→Option (List C)} {cs:List C} (B:Key)
 (hF:F az_=some cs) (hb:lookN k g.bctx=some F) (hc:lookN k g.ctx=none) (ha:as'=az_) (hs:az_.all AV.shr?=true) (hB:B=(d,adoptK+t)) (hm:σ.killB.mem B=none)
 (h2:Goal T (opsK g d f ops l K { env:=putD (gaveEnv args σ.env) (some t) (.one (.ptr B 0)),mem:=upd σ.killB.mem B (some cs) })):Goal T (giveX g d f ops (some t) l K σ k args as' none):=by
 subst ha hB
 simp only [giveX,hc,Option.isSome_none,Bool.false_eq_true,if_false,bxCall,hb,hm,hs,Bool.not_true,Bool.or_false,hF,Option.map_some,retK,Option.bind_some]
 exact h2
attribute [simp] adoptK
def C.toS:C→C
 | .l _ n cs=>.l .shr n cs
 | c=>c
def AV.toS:AV→AV
 | .one c=>.one c.toS
 | .ag cs=>.ag (cs.map C.toS)
 | .tu vs=>.tu (vs.map fun x=>(x.1,x.2.map C.toS))
theorem toS_data {x:AV} (h:x.own?=true):x.toS.data?=true:=by
 have one:∀ c:C,c.own?=true→c.toS.data?=true:=fun c h=>by
  cases c <;> first | rfl | simp [C.own?] at h
 have many:∀ cs:List C,cs.all C.own?=true→(cs.map C.toS).all C.data?=true:=fun cs h=>by
  rw [List.all_eq_true] at h ⊢
  intro c hc
  obtain ⟨c',hc',rfl⟩:=List.mem_map.1 hc
  exact one c' (h c' hc')
 cases x with
 | one c=>exact one c h
 | ag cs=>exact many cs h
 | tu vs =>
  simp only [AV.own?,List.all_eq_true] at h
  simp only [AV.toS,AV.data?,List.all_eq_true]
  intro p hp
  obtain ⟨q,hq,rfl⟩:=List.mem_map.1 hp
  have:=many q.2 (List.all_eq_true.2 (h q hq))
  exact List.all_eq_true.1 this
def specPS {X R:Type} [Args X] [Res R] (F:X→Option R):List AV→Option AV:=fun az_=>(specP F az_).map AV.toS
theorem zij {X R:Type} [Args X] [Res R] {F:X→Option R} {x:X} {y:R} (h:F x=some y):specPS F (Args.args x)=some (Res.res y).toS:=by
 unfold specPS
 rw [zah h]
 rfl
theorem pc_ofS {g:Cfg} {X R:Type} [Args X] [Res R] {F:X→Option R} {f:Nat} (hctx:CtxOK g) (hE:Enters g.P f) (h:∀ x y,F x=some y→∃ m,callo g 0 f (Args.args x) mem0=some ((Res.res y).toS,m)):PC g.P f (specPS F):=by
 refine PC.of_ev hctx hE fun az_ r hr=>?_
 unfold specPS specP at hr
 obtain ⟨r0,hr0,rfl⟩:=Option.map_eq_some_iff.1 hr
 split at hr0
 ·rename_i hx
  obtain ⟨y,hy,rfl⟩:=Option.map_eq_some_iff.1 hr0
  have:=h _ _ hy
  rwa [Classical.choose_spec hx] at this
 ·cases hr0
def specXS {T X R:Type} [Enc T] [Args X] [Res R] (F:X→T→Option (R × T)):List C→List AV→Option (AV × List C):=fun cs az_=>(specX F cs az_).map fun p=>(p.1.toS,p.2)
theorem specXS_eq {T X R:Type} [Enc T] [Args X] [Res R] {F:X→T→Option (R × T)} {x:X} {t:T} {y:R × T} (h:F x t=some y):specXS F (bxT t) (Args.args x)=some ((Res.res y.1).toS,bxT y.2):=by
 unfold specXS
 rw [zht h]
 rfl
theorem px_ofS {g:Cfg} {T X R:Type} [Enc T] [Args X] [Res R] {F:X→T→Option (R × T)} {f:Nat} (hctx:CtxOK g) (hE:Enters g.P f)
 (h:∀ x t y,F x t=some y→∃ m,callo g 0 f (.one (.ptr (0,0) 0) :: Args.args x) (upd mem0 (0,0) (some (bxT t)))=some ((Res.res y.1).toS,m)∧(m (0,0)=some (bxT y.2)∧NoBox [(0,0)] m)):PX g.P f (specXS F):=by
 refine PX.of_ev hctx hE fun cs la r cs' hF=>?_
 unfold specXS specX at hF
 obtain ⟨p0,hp0,he0⟩:=Option.map_eq_some_iff.1 hF
 simp only [Prod.mk.injEq] at he0
 obtain ⟨rfl,rfl⟩:=he0
 split at hp0
 ·rename_i hx
  obtain ⟨h1,h2⟩:=Classical.choose_spec hx
  obtain ⟨y,hy,rfl⟩:=Option.map_eq_some_iff.1 hp0
  obtain ⟨m,hm,hk,hn⟩:=h _ _ _ hy
  rw [h1,h2] at hm
  refine ⟨h1 ▸ bxT_ne _,h1 ▸ znw _,znw _,bxT_ne _,.inr (toS_data (Res.own _)),?_⟩
  rw [hm]
  congr 2
  funext k
  by_cases hkk:k=(0,0)
  ·subst hkk;rw [hk];simp [upd]
  ·rw [hn k (by simp [hkk])];simp [upd,hkk,mem0]
 ·cases hp0
attribute [simp] AV.toS C.toS bxT
end Go.Ev

