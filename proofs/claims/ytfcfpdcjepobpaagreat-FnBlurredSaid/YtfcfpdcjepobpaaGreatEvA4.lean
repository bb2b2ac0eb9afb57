import Derived.Test.YtfcfpdcjepobpaaGreatEvA3
set_option linter.unusedSimpArgs false
set_option linter.unusedVariables false
set_option linter.unnecessarySimpa false
noncomputable section
namespace Go.Ev

theorem a_dst {g:Cfg} {d f:Nat} {o:Oper} {σ:St} {r:AV × St} (hc:clsOf g f o=.a) (h:opE g d f o σ=some r):o.dst.isSome=true:=by
 obtain ⟨dst,op,ty,pos,after,guard⟩:=o
 cases op with
 | alloc e =>
  simp only [opE,bind,Option.bind_eq_some_iff] at h
  obtain ⟨i,hi,t,rfl,h⟩:=h
  rfl
 | box e x =>
  simp only [opE,bind,Option.bind_eq_some_iff] at h
  obtain ⟨i,hi,t,rfl,h⟩:=h
  rfl
 | load t a=>simp only [clsOf] at hc;split at hc <;> cases hc
 | makeSlice mt l c =>
  simp only [clsOf] at hc
  split at hc
  ·rename_i htk
   simp only [opE,bind,Option.bind_eq_some_iff] at h
   obtain ⟨i,hi,e,he,ei,hei,n,hn,cp,hcp,h⟩:=h
   split at h
   ·cases h
   ·split at h
    ·simp only [Option.bind_eq_some_iff] at h
     obtain ⟨t,rfl,_⟩:=h
     rfl
    ·cases h
  ·cases hc
 | call cl =>
  obtain ⟨callee,args,argTypes⟩:=cl
  exfalso
  cases callee with
  | value x =>
   cases x with
   | func k=>simp only [clsOf] at hc;split at hc <;> first | cases hc | (split at hc <;> cases hc)
   | _=>simp only [clsOf] at hc;split at hc <;> cases hc
  | _=>simp [clsOf] at hc
 | _=>simp [clsOf] at hc

def LocalW (S:St→Option St) (R W:List Nat) (c:Cls) (key:Key) (σ σ1:St):Prop :=
 (∀ t,t ∉ W→σ1.env t=σ.env t)∧effM c key σ.mem σ1.mem ∧
  ∀ σ',(∀ t∈R,σ'.env t=σ.env t)→agreeM c key σ.mem σ'.mem→∃ σ1',S σ'=some σ1'∧(∀ t∈W,σ1'.env t=σ1.env t)∧sameM c key σ1.mem σ1'.mem

theorem isV {op:Op}:(∃ x args argTypes,op=.call { callee:=.value x,args,argTypes })∨(∀ x args argTypes,op≠.call { callee:=.value x,args,argTypes }):=by
 cases op with
 | call c =>
  obtain ⟨callee,args,at_⟩:=c
  cases callee with
  | value x=>exact .inl ⟨x,args,at_,rfl⟩
  | _=>right;intro x args at_ h;cases h
 | _=>right;intro x args at_ h;cases h

theorem zke {call:Nat→List AV→Mem→Option (AV × Mem)} {g:Cfg} {d f:Nat} {o:Oper} {σ:St} (h:∀ x args argTypes,o.op≠.call { callee:=.value x,args,argTypes }) :
 stepW call g d f o σ=(opE g d f o σ).bind fun vs=>some { vs.2 with env:=putD vs.2.env o.dst vs.1 }:=by
 unfold stepW
 split
 ·rename_i hh;exact absurd hh (h _ _ _)
 ·rfl

theorem zdo {call:Nat→List AV→Mem→Option (AV × Mem)} {g:Cfg} {d f:Nat} {o:Oper} {σ:St} {x:Operand} {args:Array Operand} {argTypes:Array TypeId} (h:o.op=.call { callee:=.value x,args,argTypes }) :
 stepW call g d f o σ=(calleeOf σ.env x).bind fun kc =>
 (call kc.1 (args.toList.map (fun y=>(opnd σ.env y).copy) ++ kc.2) σ.mem).bind fun rm=>callEnd g f o σ kc.1 rm:=by
 unfold stepW
 rw [h]

theorem zls (g:Cfg) (n d f:Nat) (ops:Array Oper) (o:Oper) (hne:∀ x args argTypes,o.op≠.call { callee:=.value x,args,argTypes }) {σ σ1:St} (h:stepW (callN g n d) g d f o σ=some σ1) :
 LocalW (stepW (callN g n d) g d f o) (readsOf ops o) (writesOf g f o) (clsOf g f o) (d,o.dst.getD 0) σ σ1:=by
 rw [zke hne] at h
 rw [Option.bind_eq_some_iff] at h
 obtain ⟨⟨v,σ2⟩,hv,h⟩:=h
 simp only [Option.some.injEq] at h
 subst h
 obtain ⟨h1,h2,h3⟩:=opE_local g d f ops o hv
 refine ⟨fun t ht=>?_,h2,fun σ' hR hA=>?_⟩
 ·rw [zgg,List.mem_append,not_or] at ht
  show putD σ2.env o.dst v t=σ.env t
  rw [zgp fun e=>ht.1 (by rw [e];simp)]
  exact h1 t ht.2
 ·obtain ⟨σ1',a1,a2,a3⟩:=h3 σ' hR hA
  refine ⟨{ σ1' with env:=putD σ1'.env o.dst v },by rw [zke hne,a1];rfl,fun t ht=>?_,a3⟩
  rw [zgg,List.mem_append] at ht
  show putD σ1'.env o.dst v t=putD σ2.env o.dst v t
  by_cases hd:o.dst=some t
  ·rw [hd];simp [putD,upd]
  ·rw [zgp hd,zgp hd]
   refine a2 t (ht.resolve_left fun hh=>hd ?_)
   cases hdd:o.dst with
   | none=>rw [hdd] at hh;simp at hh
   | some u=>rw [hdd] at hh;simp at hh;rw [hh]


theorem zlt (g:Cfg) (n d f:Nat) (ops:Array Oper) (o:Oper) {k:Nat} {args:Array Operand} {argTypes:Array TypeId} (ho:o.op=.call { callee:=.value (.func k),args,argTypes }) {F:List AV→Option AV} (hF:lookN k g.ctx=some F) {σ σ1:St} (h:stepW (callN g n d) g d f o σ=some σ1) :
 LocalW (stepW (callN g n d) g d f o) (readsOf ops o) (writesOf g f o) (clsOf g f o) (d,o.dst.getD 0) σ σ1:=by
 have hall:∀ σ':St,(∀ t∈readsOf ops o,σ'.env t=σ.env t)→∀ y∈args.toList,opnd σ'.env y=opnd σ.env y:=by
  intro σ' hR y hy
  refine zbk hR ?_
  rw [ho]
  simp only [Op.operands,Call.operands]
  exact Array.mem_append_right _ (by simpa using hy)
 have hW:writesOf g f o=o.dst.toList:=by unfold writesOf;rw [ho];simp
 have hcls:clsOf g f o=.p:=by unfold clsOf;rw [ho];simp [hF]
 have hk0:∀ e,calleeOf e (.func k)=some (k,[]):=fun _=>rfl
 rw [zdo ho,hk0] at h
 simp only [Option.bind_some,List.append_nil] at h
 rw [Option.bind_eq_some_iff] at h
 obtain ⟨rm,hrm,h⟩:=h
 have hro:isRo g f o.dst=false:=by
  cases hr:isRo g f o.dst with
  | false=>rfl
  | true =>
   unfold callEnd at h
   rw [hr,if_pos rfl] at h
   unfold roFn at h
   rw [hF] at h
   simp at h
 unfold callEnd at h
 rw [hro] at h
 simp only [Bool.false_eq_true,if_false,Option.some.injEq] at h
 subst h
 have hput2:∀ (e e':Nat→AV) t,t∈writesOf g f o→putD e' o.dst rm.1 t=putD e o.dst rm.1 t:=fun e e' t ht=>by
  rw [hW] at ht
  cases hd:o.dst with
  | none=>rw [hd] at ht;simp at ht
  | some u=>rw [hd] at ht;simp at ht;subst ht;simp [putD,upd]
 cases n with
 | zero=>simp only [callN] at hrm;cases hrm
 | succ n =>
  simp only [callN,hF] at hrm
  rw [Option.bind_eq_some_iff] at hrm
  obtain ⟨la,hla,hrm⟩:=hrm
  rw [Option.bind_eq_some_iff] at hrm
  obtain ⟨r,hr,hrm⟩:=hrm
  split at hrm
  ·rename_i hc
   simp only [Option.some.injEq] at hrm
   subst hrm
   refine ⟨fun t ht=>zgp fun e=>ht (by rw [hW,e];simp),by rw [hcls];rfl,fun σ' hR _=>⟨{ σ' with env:=putD σ'.env o.dst r },?_,fun t ht=>hput2 _ _ t ht,by rw [hcls];trivial⟩⟩
   have ha:args.toList.map (fun y=>(opnd σ'.env y).copy)=args.toList.map (fun y=>(opnd σ.env y).copy):=List.map_congr_left fun y hy=>by rw [hall σ' hR y hy]
   rw [zdo ho]
   rw [hk0]
   simp only [Option.bind_some,List.append_nil,callN,hF]
   rw [ha,hla]
   simp only [Option.bind_some,hr]
   rw [if_pos hc]
   simp only [Option.bind_some]
   unfold callEnd
   rw [hro]
   rfl
  ·cases hrm

theorem ro_step {g:Cfg} {n d k:Nat} {ops:Array Oper} {o:Oper} (hro:roOp g k o=true) {σ σ1:St} (h:stepW (callN g n d) g d k o σ=some σ1) :
 σ1.mem=σ.mem∧∀ τ:St,τ.env=σ.env→Rev σ.mem τ.mem→∃ τ1,stepW (callN g n d) g d k o τ=some τ1∧τ1.env=σ1.env∧τ1.mem=τ.mem:=by
 unfold roOp at hro
 rw [Bool.and_eq_true,Bool.not_eq_true'] at hro
 obtain ⟨_,hro⟩:=hro
 have hc:clsOf g k o=.p∨clsOf g k o=.l:=by
  split at hro
  ·rename_i k' args at_ ho
   left
   unfold clsOf
   rw [ho]
   simp [hro]
  ·cases hro
  ·simpa using hro
 have hL:∀ σ σ1,stepW (callN g n d) g d k o σ=some σ1→LocalW (stepW (callN g n d) g d k o) (readsOf ops o) (writesOf g k o) (clsOf g k o) (d,o.dst.getD 0) σ σ1:=by
  intro σ σ1 h
  rcases isV (op:=o.op) with ⟨x,args,argTypes,ho⟩ | hne
  ·rw [ho] at hro
   cases x with
   | func k' =>
    simp only at hro
    obtain ⟨F,hF⟩:=Option.isSome_iff_exists.1 hro
    exact zlt g n d k ops o ho hF h
   | _=>simp at hro
  ·exact zls g n d k ops o hne h
 have hmem:∀ σ σ1,stepW (callN g n d) g d k o σ=some σ1→σ1.mem=σ.mem:=fun σ σ1 h=>by
  have:=(hL σ σ1 h).2.1
  rcases hc with hc | hc <;> rw [hc] at this <;> exact this
 refine ⟨hmem σ σ1 h,fun τ he hr=>?_⟩
 obtain ⟨l1,_,l3⟩:=hL σ σ1 h
 obtain ⟨τ1,t1,t2,_⟩:=l3 τ (fun t _=>by rw [he]) (by
  rcases hc with hc | hc <;> rw [hc]
  ·trivial
  ·exact hr)
 refine ⟨τ1,t1,funext fun t=>?_,hmem τ τ1 t1⟩
 by_cases ht:t∈writesOf g k o
 ·exact t2 t ht
 ·rw [(hL τ τ1 t1).1 t ht,l1 t ht,he]
theorem ro_ops {g:Cfg} {d k:Nat} {ops:Array Oper}:∀ (l:List Oper) (n:Nat) (σ σ1:St),(l.all (roOp g k)=true)→evOps g n d k ops l σ=some σ1 →
 σ1.mem=σ.mem∧∀ τ:St,τ.env=σ.env→Rev σ.mem τ.mem→∃ τ1,evOps g n d k ops l τ=some τ1∧τ1.env=σ1.env∧τ1.mem=τ.mem
 | [],n,σ,σ1,_,h=>by
  cases n with
  | zero=>rw [evOps] at h;cases h
  | succ n=>rw [evOps] at h;cases h;exact ⟨rfl,fun τ he _=>⟨τ,by rw [evOps],he,rfl⟩⟩
 | o :: l,n,σ,σ1,hl,h=>by
  cases n with
  | zero=>rw [evOps] at h;cases h
  | succ n =>
   rw [List.all_cons,Bool.and_eq_true] at hl
   rw [evOps,Option.bind_eq_some_iff] at h
   obtain ⟨want,hw,h⟩:=h
   rw [Option.bind_eq_some_iff] at h
   obtain ⟨σ2,h2,h⟩:=h
   obtain ⟨m1,e1⟩:=ro_ops l n σ2 σ1 hl.2 h
   cases want with
   | true =>
    simp only [if_true] at h2
    have hng:isGive g k o.dst=false:=by
     have:=hl.1
     unfold roOp at this
     rw [Bool.and_eq_true,Bool.not_eq_true'] at this
     exact this.1
    rw [zha hng] at h2
    obtain ⟨m2,e2⟩:=ro_step (ops:=ops) hl.1 h2
    refine ⟨m1.trans m2,fun τ he hr=>?_⟩
    obtain ⟨τ2,a1,a2,a3⟩:=e2 τ he hr
    rw [← zha hng] at a1
    obtain ⟨τ1,b1,b2,b3⟩:=e1 τ2 a2 (by rw [m2,a3];exact hr)
    exact ⟨τ1,by rw [evOps,he,hw,Option.bind_some,if_pos rfl,a1,Option.bind_some,b1],b2,b3.trans a3⟩
   | false =>
    simp only [Bool.false_eq_true,if_false,Option.some.injEq] at h2
    subst h2
    refine ⟨m1,fun τ he hr=>?_⟩
    obtain ⟨τ1,b1,b2,b3⟩:=e1 { τ with env:=putD τ.env o.dst .skp } (by simp only [he]) hr
    exact ⟨τ1,by rw [evOps,he,hw,Option.bind_some,if_neg (by simp),Option.bind_some,← he];exact b1,b2,b3⟩
def likeO (m m':Mem):Out→Out→Prop
 | .norm σ,.norm τ=>σ.mem=m∧τ.env=σ.env∧τ.mem=m'
 | .exit i σ,.exit j τ=>i=j∧σ.mem=m∧τ.env=σ.env∧τ.mem=m'
 | .ret σ,.ret τ=>σ.mem=m∧τ.env=σ.env∧τ.mem=m'
 | _,_=>False
def memO:Out→Mem
 | .norm σ=>σ.mem
 | .exit _ σ=>σ.mem
 | .ret σ=>σ.mem
theorem ro_ev {g:Cfg} {d k:Nat}:∀ (n:Nat) (c:Code) (σ:St) (out:Out),roCode g k c=true→evN g n d k c σ=some out →
 memO out=σ.mem∧∀ τ:St,τ.env=σ.env→Rev σ.mem τ.mem→∃ out',evN g n d k c τ=some out'∧likeO σ.mem τ.mem out out'
 | 0,c,σ,out,_,h=>by rw [evN] at h;cases h
 | n+1,c,σ,out,hro,h=>by
  cases c with
  | skip=>rw [evN] at h;cases h;exact ⟨rfl,fun τ he _=>⟨.norm τ,by rw [evN],rfl,he,rfl⟩⟩
  | label l=>rw [evN] at h;cases h;exact ⟨rfl,fun τ he _=>⟨.norm τ,by rw [evN],rfl,he,rfl⟩⟩
  | exit i=>rw [evN] at h;cases h;exact ⟨rfl,fun τ he _=>⟨.exit i τ,by rw [evN],rfl,rfl,he,rfl⟩⟩
  | ret=>rw [evN] at h;cases h;exact ⟨rfl,fun τ he _=>⟨.ret τ,by rw [evN],rfl,he,rfl⟩⟩
  | region id ops draw =>
   simp only [roCode,Bool.and_eq_true,Option.isNone_iff_eq_none] at hro
   have hg1:∀ σ,ghoAt g d k id σ=some σ:=fun σ=>by unfold ghoAt;rw [hro.2.1]
   have hg2:∀ σ,ghoAt g d k (behind id) σ=some σ:=fun σ=>by unfold ghoAt;rw [hro.2.2]
   rw [evN,hg1,Option.bind_some,Option.bind_eq_some_iff] at h
   obtain ⟨σ1,h1,h⟩:=h
   rw [hg2] at h
   cases h
   obtain ⟨m1,e1⟩:=ro_ops _ _ _ _ hro.1 h1
   refine ⟨m1,fun τ he hr=>?_⟩
   obtain ⟨τ1,a1,a2,a3⟩:=e1 τ he hr
   exact ⟨.norm τ1,by rw [evN,hg1,Option.bind_some,a1,Option.bind_some,hg2];rfl,m1,a2,a3⟩
  | seq a b =>
   simp only [roCode,Bool.and_eq_true] at hro
   rw [evN,Option.bind_eq_some_iff] at h
   obtain ⟨o1,h1,h⟩:=h
   obtain ⟨m1,e1⟩:=ro_ev n a σ o1 hro.1 h1
   cases o1 with
   | norm σ1 =>
    obtain ⟨m2,e2⟩:=ro_ev n b σ1 out hro.2 h
    have m1:σ1.mem=σ.mem:=m1
    refine ⟨m2.trans m1,fun τ he hr=>?_⟩
    obtain ⟨o2,a1,a2⟩:=e1 τ he hr
    cases o2 with
    | norm τ1 =>
     obtain ⟨_,a3,a4⟩:=a2
     obtain ⟨o3,b1,b2⟩:=e2 τ1 a3 (by rw [m1,a4];exact hr)
     refine ⟨o3,by rw [evN,a1,Option.bind_some];exact b1,?_⟩
     rw [m1,a4] at b2
     exact b2
    | exit i τ1=>exact a2.elim
    | ret τ1=>exact a2.elim
   | exit i σ1 =>
    cases h
    refine ⟨m1,fun τ he hr=>?_⟩
    obtain ⟨o2,a1,a2⟩:=e1 τ he hr
    cases o2 with
    | exit j τ1=>exact ⟨_,by rw [evN,a1,Option.bind_some];rfl,a2⟩
    | norm τ1=>exact a2.elim
    | ret τ1=>exact a2.elim
   | ret σ1 =>
    cases h
    refine ⟨m1,fun τ he hr=>?_⟩
    obtain ⟨o2,a1,a2⟩:=e1 τ he hr
    cases o2 with
    | ret τ1=>exact ⟨_,by rw [evN,a1,Option.bind_some];rfl,a2⟩
    | norm τ1=>exact a2.elim
    | exit i τ1=>exact a2.elim
  | cond x a b =>
   simp only [roCode,Bool.and_eq_true] at hro
   rw [evN,Option.bind_eq_some_iff] at h
   obtain ⟨t,ht,h⟩:=h
   cases t with
   | true =>
    obtain ⟨m1,e1⟩:=ro_ev n a σ out hro.1 h
    refine ⟨m1,fun τ he hr=>?_⟩
    obtain ⟨o2,a1,a2⟩:=e1 τ he hr
    exact ⟨o2,by rw [evN,he,ht,Option.bind_some,if_pos rfl,a1],a2⟩
   | false =>
    obtain ⟨m1,e1⟩:=ro_ev n b σ out hro.2 h
    refine ⟨m1,fun τ he hr=>?_⟩
    obtain ⟨o2,a1,a2⟩:=e1 τ he hr
    exact ⟨o2,by rw [evN,he,ht,Option.bind_some,if_neg (by simp),a1],a2⟩
  | block id a =>
   simp only [roCode] at hro
   rw [evN,Option.bind_eq_some_iff] at h
   obtain ⟨o1,h1,h⟩:=h
   obtain ⟨m1,e1⟩:=ro_ev n a σ o1 hro h1
   cases h
   have hmb:memO (o1.blk id)=memO o1:=by
    unfold Out.blk
    cases o1 with
    | exit i σ1=>simp only;split <;> rfl
    | _=>rfl
   refine ⟨hmb.trans m1,fun τ he hr=>?_⟩
   obtain ⟨o2,a1,a2⟩:=e1 τ he hr
   refine ⟨o2.blk id,by rw [evN,a1,Option.bind_some],?_⟩
   cases o1 with
   | norm σ1=>cases o2 with
    | norm τ1=>exact a2
    | exit i τ1=>exact a2.elim
    | ret τ1=>exact a2.elim
   | ret σ1=>cases o2 with
    | ret τ1=>exact a2
    | norm τ1=>exact a2.elim
    | exit i τ1=>exact a2.elim
   | exit i σ1=>cases o2 with
    | exit j τ1 =>
     obtain ⟨rfl,a3⟩:=a2
     unfold Out.blk
     by_cases hi:i=id
     ·simp only [hi,if_true];exact a3
     ·simp only [hi,if_false];exact ⟨rfl,a3⟩
    | norm τ1=>exact a2.elim
    | ret τ1=>exact a2.elim
  | _=>simp [roCode] at hro
theorem ro_call {g:Cfg} {n d k:Nat} {args:List AV} {mem m':Mem} {r:AV} (hro:roFn g k=true) (h:callN g n d k args mem=some (r,m')) :
 m'=memKill (fun k=>decide (d < k.1)) mem∧∀ mem2,Rev mem mem2→∃ m2,callN g n d k args mem2=some (r,m2):=by
 cases n with
 | zero=>rw [callN] at h;cases h
 | succ n =>
  unfold roFn at hro
  simp only [Bool.and_eq_true,Option.isNone_iff_eq_none] at hro
  obtain ⟨⟨h0,hpx⟩,hend,hro⟩:=hro
  rw [callN,h0] at h
  simp only at h
  cases hf:g.P.funcs[k]? with
  | none=>rw [hf] at hro;cases hro
  | some fn =>
   rw [hf] at hro h
   simp only [Bool.and_eq_true] at hro h
   cases hb:fn.body with
   | none=>rw [hb] at hro;exact absurd hro.1 (by simp)
   | some c =>
    rw [hb] at hro h
    simp only at hro h
    split at h
    ·rw [hpx] at h
     cases h
    rename_i hok
    rw [Option.bind_eq_some_iff] at h
    obtain ⟨out,hout,h⟩:=h
    rw [Option.bind_eq_some_iff] at h
    obtain ⟨σd,hσd,h⟩:=h
    have hg:∀ σ,ghoAt g (d+1) k atEnd σ=some σ:=fun σ=>by unfold ghoAt;rw [hend]
    rw [hg,Option.bind_some,Option.bind_eq_some_iff] at h
    obtain ⟨r0,hr0,h⟩:=h
    simp only [Option.some.injEq,Prod.mk.injEq] at h
    obtain ⟨rfl,rfl⟩:=h
    obtain ⟨m1,e1⟩:=ro_ev n c _ out hro.1 hout
    obtain ⟨t,hres⟩:∃ t,fn.results.toList=[.tmp t]:=by
     have:=hro.2
     split at this
     ·rename_i t ht;exact ⟨t,ht⟩
     ·cases this
    have hret:∀ σ:St,retVal g.P (d+1) fn σ=some (σ.env t):=fun σ=>by
     unfold retVal
     rw [hres]
     rfl
    have hmd:σd.mem=mem:=by
     cases out with
     | norm σ1=>cases hσd;exact m1
     | ret σ1=>cases hσd;exact m1
     | exit i σ1=>cases hσd
    refine ⟨by rw [hmd],fun mem2 hr2=>?_⟩
    obtain ⟨o2,a1,a2⟩:=e1 { env:=fun t=>(args[t]?).getD .dead,mem:=mem2 } rfl hr2
    have:∃ τd,o2.done=some τd∧τd.env=σd.env:=by
     cases out with
     | norm σ1=>cases o2 with
      | norm τ1=>cases hσd;exact ⟨τ1,rfl,a2.2.1⟩
      | exit i τ1=>exact a2.elim
      | ret τ1=>exact a2.elim
     | ret σ1=>cases o2 with
      | ret τ1=>cases hσd;exact ⟨τ1,rfl,a2.2.1⟩
      | exit i τ1=>exact a2.elim
      | norm τ1=>exact a2.elim
     | exit i σ1=>cases hσd
    obtain ⟨τd,hd1,hd2⟩:=this
    refine ⟨memKill (fun k=>decide (d < k.1)) τd.mem,?_⟩
    rw [callN,h0]
    simp only [hf,hb]
    rw [if_neg hok,a1,Option.bind_some,hd1,Option.bind_some,hg,Option.bind_some,hret,Option.bind_some,hd2]
    rw [hret] at hr0
    cases hr0
    rfl

theorem stepW_local (g:Cfg) (n d f:Nat) (ops:Array Oper) (o:Oper) {σ σ1:St} (h:stepW (callN g n d) g d f o σ=some σ1) :
 LocalW (stepW (callN g n d) g d f o) (readsOf ops o) (writesOf g f o) (clsOf g f o) (d,o.dst.getD 0) σ σ1:=by
 rcases isV (op:=o.op) with ⟨x,args,argTypes,ho⟩ | hne
 ·by_cases hcx:∃ k F,x=.func k∧lookN k g.ctx=some F
  ·obtain ⟨k,F,rfl,hF⟩:=hcx
   exact zlt g n d f ops o ho hF h
  ·have hall:∀ σ':St,(∀ t∈readsOf ops o,σ'.env t=σ.env t)→opnd σ'.env x=opnd σ.env x∧∀ y∈args.toList,opnd σ'.env y=opnd σ.env y:=by
    intro σ' hR
    refine ⟨zbk hR (by rw [ho];simp [Op.operands,Call.operands]),fun y hy=>zbk hR ?_⟩
    rw [ho]
    simp only [Op.operands,Call.operands]
    exact Array.mem_append_right _ (by simpa using hy)
   have hW:writesOf g f o=o.dst.toList:=by unfold writesOf;rw [ho];simp
   rw [zdo ho] at h
   rw [Option.bind_eq_some_iff] at h
   obtain ⟨kc,hkc,h⟩:=h
   rw [Option.bind_eq_some_iff] at h
   obtain ⟨rm,hrm,h⟩:=h
   have hput:∀ t,t ∉ writesOf g f o→putD σ.env o.dst rm.1 t=σ.env t:=fun t ht=>zgp fun e=>ht (by rw [hW,e];simp)
   have hput2:∀ (e e':Nat→AV) t,t∈writesOf g f o→putD e' o.dst rm.1 t=putD e o.dst rm.1 t:=fun e e' t ht=>by
    rw [hW] at ht
    cases hd:o.dst with
    | none=>rw [hd] at ht;simp at ht
    | some u=>rw [hd] at ht;simp at ht;subst ht;simp [putD,upd]
   have hcls:clsOf g f o=if isRo g f o.dst then .l else .m:=by
    unfold clsOf
    rw [ho]
    cases x with
    | func k =>
     cases hl:lookN k g.ctx with
     | none=>simp [hl]
     | some F=>exact absurd ⟨k,F,rfl,hl⟩ hcx
    | _=>rfl
   have ha:∀ σ':St,(∀ t∈readsOf ops o,σ'.env t=σ.env t)→args.toList.map (fun y=>(opnd σ'.env y).copy)=args.toList.map (fun y=>(opnd σ.env y).copy):=fun σ' hR=>List.map_congr_left fun y hy=>by rw [(hall σ' hR).2 y hy]
   have hk:∀ σ':St,(∀ t∈readsOf ops o,σ'.env t=σ.env t)→calleeOf σ'.env x=some kc:=fun σ' hR=>by unfold calleeOf at hkc ⊢; rw [(hall σ' hR).1];exact hkc
   cases hr:isRo g f o.dst with
   | false =>
    rw [hr] at hcls
    unfold callEnd at h
    rw [hr] at h
    simp only [Bool.false_eq_true,if_false,Option.some.injEq] at h hcls
    subst h
    refine ⟨hput,by rw [hcls];trivial,fun σ' hR hA=>?_⟩
    rw [hcls] at hA
    have hm:σ'.mem=σ.mem:=hA
    refine ⟨{ env:=putD σ'.env o.dst rm.1,mem:=rm.2 },?_,fun t ht=>hput2 _ _ t ht,by rw [hcls];rfl⟩
    rw [zdo ho,hk σ' hR]
    simp only [Option.bind_some]
    rw [ha σ' hR,hm,hrm]
    simp only [Option.bind_some,callEnd,hr,Bool.false_eq_true,if_false]
   | true =>
    rw [hr] at hcls
    unfold callEnd at h
    rw [hr] at h
    simp only [if_true] at h hcls
    split at h
    ·rename_i hfn
     simp only [Option.some.injEq] at h
     subst h
     refine ⟨hput,by rw [hcls];rfl,fun σ' hR hA=>?_⟩
     rw [hcls] at hA
     obtain ⟨m2,hm2⟩:=(ro_call hfn hrm).2 σ'.mem hA
     refine ⟨{ env:=putD σ'.env o.dst rm.1,mem:=σ'.mem },?_,fun t ht=>hput2 _ _ t ht,by rw [hcls];trivial⟩
     rw [zdo ho,hk σ' hR]
     simp only [Option.bind_some]
     rw [ha σ' hR,hm2]
     simp only [Option.bind_some,callEnd,hr,if_true,hfn]
    ·cases h
 ·exact zls g n d f ops o hne h

theorem takes_reads {g:Cfg} {f:Nat} {ops:Array Oper} {o:Oper} {t:Nat} (h:t∈takesOf g f o):t∈readsOf ops o:=by
 unfold takesOf at h
 unfold readsOf
 refine List.mem_append_left _ ?_
 dsimp only at h
 split at h
 ·split at h
  ·exact h
  ·cases h
 all_goals first | exact h | cases h

def stepB (S:Oper→St→Option St) (ops:Array Oper) (o:Oper) (b:Bool) (σ:St):Option St :=
 if wants ops σ.env o=some b then (if b then S o σ else some { σ with env:=putD σ.env o.dst .skp }) else none

theorem stepG_iff {S:Oper→St→Option St} {ops:Array Oper} {o:Oper} {σ σ1:St}:stepG S ops o σ=some σ1 ↔ ∃ b,stepB S ops o b σ=some σ1:=by
 unfold stepG stepB
 constructor
 ·intro h
  rw [Option.bind_eq_some_iff] at h
  obtain ⟨b,hb,h⟩:=h
  exact ⟨b,by rw [if_pos hb];exact h⟩
 ·rintro ⟨b,h⟩
  split at h
  ·rename_i hb;rw [hb];exact h
  ·cases h

def clsB (g:Cfg) (f:Nat) (o:Oper) (b:Bool):Cls:=if b then clsOf g f o else .p

theorem zgc (g:Cfg) (n d f:Nat) (ops:Array Oper) (o:Oper) (b:Bool):Local (stepB (stepW (callN g n d) g d f) ops o b) (readsOf ops o) (writesOf g f o) (clsB g f o b) (d,o.dst.getD 0):=by
 have key:∀ σ σ1,stepB (stepW (callN g n d) g d f) ops o b σ=some σ1→LocalW (stepB (stepW (callN g n d) g d f) ops o b) (readsOf ops o) (writesOf g f o) (clsB g f o b) (d,o.dst.getD 0) σ σ1:=by
  intro σ σ1 h
  unfold stepB at h
  split at h
  ·rename_i hb
   cases b with
   | true =>
    simp only [if_true] at h
    obtain ⟨h1,h2,h3⟩:=stepW_local g n d f ops o h
    refine ⟨h1,h2,fun σ' hR hA=>?_⟩
    obtain ⟨σ1',a1,a2,a3⟩:=h3 σ' hR hA
    refine ⟨σ1',?_,a2,a3⟩
    unfold stepB
    rw [wants_eq hR,if_pos hb]
    exact a1
   | false =>
    simp only [Bool.false_eq_true,if_false,Option.some.injEq] at h
    subst h
    refine ⟨fun t ht=>zgp fun e=>ht (by rw [zgg,e];simp),rfl,fun σ' hR _=>⟨{ σ' with env:=putD σ'.env o.dst .skp },?_,fun t ht=>?_,trivial⟩⟩
    ·unfold stepB
     rw [wants_eq hR,if_pos hb]
     rfl
    ·show putD σ'.env o.dst .skp t=putD σ.env o.dst .skp t
     rw [zgg,List.mem_append] at ht
     by_cases hd:o.dst=some t
     ·rw [hd];simp [putD,upd]
     ·rw [zgp hd,zgp hd]
      have ht2:=ht.resolve_left fun hh=>hd (by
       cases hdd:o.dst with
       | none=>rw [hdd] at hh;simp at hh
       | some u=>rw [hdd] at hh;simp at hh;rw [hh])
      exact hR t (takes_reads ht2)
  ·cases h
 exact ⟨fun σ σ1 h=>(key σ σ1 h).1,fun σ σ1 h=>(key σ σ1 h).2.1,fun σ σ1 σ' h=>(key σ σ1 h).2.2 σ'⟩

theorem stepB_a {g:Cfg} {n d f:Nat} {ops:Array Oper} {o:Oper} {b:Bool} {σ σ1:St} (hc:clsB g f o b=.a) (h:stepB (stepW (callN g n d) g d f) ops o b σ=some σ1):o.dst.isSome=true:=by
 cases b with
 | false=>cases hc
 | true =>
  have hc:clsOf g f o=.a:=hc
  unfold stepB at h
  split at h
  ·simp only [if_true] at h
   have hne:∀ x args argTypes,o.op≠.call { callee:=.value x,args,argTypes }:=by
    intro x args at_ ho
    unfold clsOf at hc
    rw [ho] at hc
    cases x with
    | func k=>simp only at hc;split at hc <;> first | cases hc | (split at hc <;> cases hc)
    | _=>simp only at hc;split at hc <;> cases hc
   rw [zke hne,Option.bind_eq_some_iff] at h
   obtain ⟨vs,hv,_⟩:=h
   exact a_dst hc hv
  ·cases h

theorem zek {a b:List Nat} (h:disj a b=true) {t:Nat} (ha:t∈a):t ∉ b:=by
 unfold disj at h
 rw [List.all_eq_true] at h
 have:=h t ha
 simpa using this

theorem clsB_ok {g:Cfg} {f:Nat} {x y:Oper} (h:clsOK (clsOf g f x) (clsOf g f y)=true) (bx by_:Bool):clsOK (clsB g f x bx) (clsB g f y by_)=true:=by
 cases bx with
 | false=>cases hh:clsB g f y by_ <;> rfl
 | true =>
  cases by_ with
  | false=>show clsOK (clsOf g f x) .p=true;cases clsOf g f x <;> rfl
  | true=>exact h

theorem load_away {g:Cfg} {d f:Nat} {call:Nat→List AV→(Key→Option (List C))→Option (AV × (Key→Option (List C)))} {x:Oper} {lt:TypeId} {a:Operand} {t b:Nat} (hx:x.op=.load lt a) (hd:x.dst=some t) (htk:g.tk f (some t)=false)
 (haw:g.away.contains (f,t,b)=true) {σ σ1:St} (h:stepW call g d f x σ=some σ1) :
 σ1.mem=σ.mem∧∀ σ':St,opnd σ'.env a=opnd σ.env a→(∀ k,k≠(d,b)→σ'.mem k=σ.mem k)→∃ σ1',stepW call g d f x σ'=some σ1'∧σ1'.mem=σ'.mem∧σ1'.env t=σ1.env t∧∀ u,u≠t→σ1'.env u=σ'.env u:=by
 obtain ⟨dst,op,ty,pos,after,guard⟩:=x
 simp only at hx hd
 subst hx hd
 simp only [stepW,Option.bind_eq_some_iff] at h
 obtain ⟨⟨v,σ2⟩,h,h1⟩:=h
 simp only [Option.some.injEq] at h1
 simp only [opE,htk,Bool.false_eq_true,if_false,bind,Option.bind_eq_some_iff] at h
 obtain ⟨i,hi,h⟩:=h
 split at h
 ·rename_i k off hq
  simp only [Option.bind_eq_some_iff] at h
  obtain ⟨cs,hcs,sg,hsg,h⟩:=h
  split at h
  ·rename_i hdd
   simp only [Option.bind_eq_some_iff,Option.some.injEq,Prod.mk.injEq] at h
   obtain ⟨v',hv,rfl,rfl⟩:=h
   subst h1
   refine ⟨rfl,fun σ' ha hm=>⟨{ σ' with env:=putD σ'.env (some t) v' },?_,rfl,by simp [putD,upd],fun u hu=>by simp [putD,upd,hu]⟩⟩
   have hk:k≠(d,b):=by
    rintro rfl
    rw [Bool.and_eq_true,Bool.not_eq_true'] at hdd
    have h2:=hdd.2
    simp only [awayB] at h2
    rw [List.any_eq_false] at h2
    have:=h2 (f,t,b) (by simpa using haw)
    simp at this
   simp only [stepW,opE,htk,Bool.false_eq_true,if_false,bind,hi,Option.bind_some,ha,hq,hm k hk,hcs,hsg,hv,hdd,if_true]
  ·cases h
 ·rename_i hq
  simp only [Option.bind_eq_some_iff,Option.some.injEq,Prod.mk.injEq] at h
  obtain ⟨sg,hsg,v',hv,rfl,rfl⟩:=h
  subst h1
  refine ⟨rfl,fun σ' ha hm=>⟨{ σ' with env:=putD σ'.env (some t) v' },?_,rfl,by simp [putD,upd],fun u hu=>by simp [putD,upd,hu]⟩⟩
  simp only [stepW,opE,bind,hi,Option.bind_some,ha,hq,hsg,hv]
 ·cases h

theorem store_late {g:Cfg} {d f:Nat} {call:Nat→List AV→(Key→Option (List C))→Option (AV × (Key→Option (List C)))} {y:Oper} {st:TypeId} {b t:Nat} {x:Operand} (hy:y.op=.store st (.tmp b) x)
 (haw:g.away.contains (f,t,b)=true) {σ σ1:St} (h:stepW call g d f y σ=some σ1):∀ k,k≠(d,b)→σ1.mem k=σ.mem k:=by
 obtain ⟨dst,op,ty,pos,after,guard⟩:=y
 simp only at hy
 subst hy
 simp only [stepW,Option.bind_eq_some_iff] at h
 obtain ⟨⟨v,σ2⟩,h,h1⟩:=h
 simp only [Option.some.injEq] at h1
 simp only [opE,bind,Option.bind_eq_some_iff] at h
 obtain ⟨i,hi,h⟩:=h
 split at h
 ·rename_i k off hq
  simp only [Option.bind_eq_some_iff] at h
  obtain ⟨cs,hcs,new,hnew,h⟩:=h
  split at h
  ·rename_i hcond
   simp only [Option.some.injEq,Prod.mk.injEq] at h
   obtain ⟨rfl,rfl⟩:=h
   subst h1
   have hk:k=(d,b):=by
    have h2:=hcond.2.2.2.2
    simp only [lateB] at h2
    rw [List.any_eq_false] at h2
    have:=h2 (f,t,b) (by simpa using haw)
    simpa using this
   intro k' hk'
   subst hk
   simp [upd,hk']
  ·cases h
 ·cases h

theorem take_late {g:Cfg} {d f:Nat} {call:Nat→List AV→(Key→Option (List C))→Option (AV × (Key→Option (List C)))} {y:Oper} {st:TypeId} {b t:Nat} (hy:y.op=.load st (.tmp b)) (htk:g.tk f y.dst=true)
 (haw:g.away.contains (f,t,b)=true) {σ σ1:St} (h:stepW call g d f y σ=some σ1):∀ k,k≠(d,b)→σ1.mem k=σ.mem k:=by
 obtain ⟨dst,op,ty,pos,after,guard⟩:=y
 simp only at hy htk
 subst hy
 simp only [stepW,Option.bind_eq_some_iff] at h
 obtain ⟨⟨v,σ2⟩,h,h1⟩:=h
 simp only [Option.some.injEq] at h1
 simp only [opE,bind,htk,if_true,Option.bind_eq_some_iff] at h
 obtain ⟨i,hi,h⟩:=h
 split at h
 ·rename_i k off hq
  simp only [Option.bind_eq_some_iff] at h
  obtain ⟨cs,hcs,sg,hsg,h⟩:=h
  split at h
  ·cases h
  ·rename_i hcond
   simp only [Option.bind_eq_some_iff,Option.some.injEq,Prod.mk.injEq] at h
   obtain ⟨v',hv,rfl,rfl⟩:=h
   subst h1
   have hk:k=(d,b):=by
    have h2:lateB g d f (.tmp b) k=false:=by
     cases hl:lateB g d f (.tmp b) k with
     | false=>rfl
     | true=>exact absurd (.inr (.inl hl)) hcond
    simp only [lateB] at h2
    rw [List.any_eq_false] at h2
    have:=h2 (f,t,b) (by simpa using haw)
    simpa using this
   intro k' hk'
   subst hk
   simp [upd,hk']
 ·simp only [Option.bind_eq_some_iff,Option.some.injEq,Prod.mk.injEq] at h
  obtain ⟨sg,hsg,v',hv,rfl,rfl⟩:=h
  subst h1
  intro k _
  rfl
 ·cases h

theorem zjr {near:Bool} {d:Nat} {F:List C→List AV→Option (AV × List C)} {args:List AV} {mem m:Mem} {r:AV} (h:pxCall near d args mem (some F)=some (r,m)):∃ K az_ cs rc,args=.one (.ptr K 0) :: az_∧az_.all AV.shr?=true∧(near=true∨(K.1≠d∨adoptK≤K.2))∧mem K=some cs∧F cs az_=some rc∧r=rc.1∧m=upd mem K (some rc.2):=by
 unfold pxCall at h
 simp only at h
 split at h
 ·split at h
  ·rename_i hsh
   simp only [Bool.and_eq_true,Bool.or_eq_true,decide_eq_true_eq] at hsh
   rw [Option.bind_eq_some_iff] at h
   obtain ⟨cs,hcs,h⟩:=h
   rw [Option.bind_eq_some_iff] at h
   obtain ⟨rc,hr',h⟩:=h
   simp only [Option.some.injEq,Prod.mk.injEq] at h
   exact ⟨_,_,cs,rc,rfl,hsh.1,hsh.2,hcs,hr',h.1.symm,h.2.symm⟩
  ·cases h
 ·cases h

theorem load_far {g:Cfg} {d f:Nat} {call:Nat→List AV→(Key→Option (List C))→Option (AV × (Key→Option (List C)))} {x:Oper} {lt:TypeId} {a:Operand} {t:Nat} (hx:x.op=.load lt a) (hd:x.dst=some t) (htk:g.tk f (some t)=false)
 (haw:g.away.contains (f,t,farM)=true) {σ σ1:St} (h:stepW call g d f x σ=some σ1) :
 σ1.mem=σ.mem∧∀ σ':St,opnd σ'.env a=opnd σ.env a→(∀ k:Key,(k.1=d∧k.2 < adoptK)→σ'.mem k=σ.mem k)→∃ σ1',stepW call g d f x σ'=some σ1'∧σ1'.mem=σ'.mem∧σ1'.env t=σ1.env t∧∀ u,u≠t→σ1'.env u=σ'.env u:=by
 obtain ⟨dst,op,ty,pos,after,guard⟩:=x
 simp only at hx hd
 subst hx hd
 simp only [stepW,Option.bind_eq_some_iff] at h
 obtain ⟨⟨v,σ2⟩,h,h1⟩:=h
 simp only [Option.some.injEq] at h1
 simp only [opE,htk,Bool.false_eq_true,if_false,bind,Option.bind_eq_some_iff] at h
 obtain ⟨i,hi,h⟩:=h
 split at h
 ·rename_i k off hq
  simp only [Option.bind_eq_some_iff] at h
  obtain ⟨cs,hcs,sg,hsg,h⟩:=h
  split at h
  ·rename_i hdd
   simp only [Option.bind_eq_some_iff,Option.some.injEq,Prod.mk.injEq] at h
   obtain ⟨v',hv,rfl,rfl⟩:=h
   subst h1
   refine ⟨rfl,fun σ' ha hm=>⟨{ σ' with env:=putD σ'.env (some t) v' },?_,rfl,by simp [putD,upd],fun u hu=>by simp [putD,upd,hu]⟩⟩
   have hk:k.1=d∧k.2 < adoptK:=by
    rw [Bool.and_eq_true,Bool.not_eq_true'] at hdd
    have h2:=hdd.2
    simp only [awayB] at h2
    rw [List.any_eq_false] at h2
    have:=h2 (f,t,farM) (by simpa using haw)
    simp only [beq_self_eq_true,Bool.true_and,Bool.or_eq_true,decide_eq_true_eq,not_or,Decidable.not_not,Nat.not_le] at this
    exact this.2
   simp only [stepW,opE,htk,Bool.false_eq_true,if_false,bind,hi,Option.bind_some,ha,hq,hm k hk,hcs,hsg,hv,hdd,if_true]
  ·cases h
 ·rename_i hq
  simp only [Option.bind_eq_some_iff,Option.some.injEq,Prod.mk.injEq] at h
  obtain ⟨sg,hsg,v',hv,rfl,rfl⟩:=h
  subst h1
  refine ⟨rfl,fun σ' ha hm=>⟨{ σ' with env:=putD σ'.env (some t) v' },?_,rfl,by simp [putD,upd],fun u hu=>by simp [putD,upd,hu]⟩⟩
  simp only [stepW,opE,bind,hi,Option.bind_some,ha,hq,hsg,hv]
 ·cases h
theorem call_far {g:Cfg} {n d f:Nat} {y:Oper} {k:Nat} {args:Array Operand} {at_:Array TypeId} {F:List C→List AV→Option (AV × List C)} (hy:y.op=.call { callee:=.value (.func k),args,argTypes:=at_ }) (h0:lookN k g.ctx=none) (hp:lookN k g.pctx=some F) (hro:isRo g f y.dst=false) (hn:g.near=false)
 {σ σ1:St} (h:stepW (callN g n d) g d f y σ=some σ1):∀ k:Key,(k.1=d∧k.2 < adoptK)→σ1.mem k=σ.mem k:=by
 rw [zdo hy,Option.bind_eq_some_iff] at h
 obtain ⟨kc,hkc,h⟩:=h
 cases hkc
 rw [Option.bind_eq_some_iff] at h
 obtain ⟨⟨r,m⟩,hrm,h⟩:=h
 unfold callEnd at h
 rw [if_neg (by rw [hro];simp)] at h
 simp only [Option.some.injEq] at h
 subst h
 cases n with
 | zero=>rw [callN] at hrm;cases hrm
 | succ n =>
  rw [callN,h0] at hrm
  simp only at hrm
  split at hrm
  ·split at hrm
   ·split at hrm
    ·rw [hp] at hrm
     obtain ⟨K,az_,cs,rc,_,_,hf,_,_,_,rfl⟩:=zjr hrm
     rw [hn] at hf
     intro key hk
     show upd σ.mem K (some rc.2) key=σ.mem key
     unfold upd
     rw [if_neg]
     rintro rfl
     rcases hf with hf | hf | hf
     ·cases hf
     ·exact hf hk.1
     ·omega
    ·rename_i hc
     exfalso
     apply hc
     have:∀ fn,fnOK g k fn=false:=fun fn=>by unfold fnOK;rw [hp];simp
     rw [this]
     rfl
   ·cases hrm
  ·cases hrm
theorem zly {g:Cfg} {f:Nat} {x y:Oper} (h:farPair g f x y=true):∃ lt a t k args at_ F,x.op=.load lt a∧x.dst=some t∧x.guard=none∧y.guard=none∧g.tk f (some t)=false∧g.away.contains (f,t,farM)=true∧y.op=.call { callee:=.value (.func k),args,argTypes:=at_ }∧lookN k g.ctx=none∧lookN k g.pctx=some F∧isRo g f y.dst=false∧g.near=false:=by
 unfold farPair at h
 split at h
 ·rename_i lt a k args at_ t h1 h2 h3 h4 h5
  simp only [Bool.and_eq_true,Bool.not_eq_true',Option.isNone_iff_eq_none,Option.isSome_iff_exists] at h
  obtain ⟨e1,e2,e3,⟨F,e4⟩,e5,e6⟩:=h
  exact ⟨_,_,_,_,_,_,F,h1,h3,h4,h5,e1,e2,h2,e3,e4,e5,e6⟩
 ·cases h
theorem zqt {g:Cfg} {f:Nat} {x y:Oper} (h:awayPair g f x y=true):∃ lt a b t,x.op=.load lt a∧x.dst=some t∧x.guard=none∧y.guard=none∧g.tk f (some t)=false∧g.away.contains (f,t,b)=true∧((∃ st v,y.op=.store st (.tmp b) v)∨∃ st,y.op=.load st (.tmp b)∧g.tk f y.dst=true):=by
 unfold awayPair at h
 split at h
 ·rename_i lt a st b v t h1 h2 h3 h4 h5
  rw [Bool.and_eq_true,Bool.not_eq_true'] at h
  exact ⟨_,_,_,_,h1,h3,h4,h5,h.1,h.2,.inl ⟨_,_,h2⟩⟩
 ·rename_i lt a st b t h1 h2 h3 h4 h5
  rw [Bool.and_eq_true,Bool.and_eq_true,Bool.not_eq_true'] at h
  exact ⟨_,_,_,_,h1,h3,h4,h5,h.1,h.2.2,.inr ⟨_,h2,h.2.1⟩⟩
 ·cases h

theorem extPair_spec {x y:Oper} (h:extPair x y=true):∃ t i j a b,x.op=.extract (.tmp t) i∧y.op=.extract (.tmp t) j∧x.dst=some a∧y.dst=some b∧x.guard=none∧y.guard=none∧i≠j∧a≠b∧a≠t∧b≠t:=by
 unfold extPair at h
 split at h
 ·rename_i t i t' j a b h1 h2 h3 h4 h5 h6
  simp only [Bool.and_eq_true,beq_iff_eq,bne_iff_ne,ne_eq] at h
  obtain ⟨rfl,e1,e2,e3,e4⟩:=h
  exact ⟨_,_,_,_,_,h1,h2,h3,h4,h5,h6,e1,e2,e3,e4⟩
 ·cases h
theorem zhe {call:Nat→List AV→(Key→Option (List C))→Option (AV × (Key→Option (List C)))} {g:Cfg} {d f:Nat} {x:Oper} {t i a:Nat} (hx:x.op=.extract (.tmp t) i) (hd:x.dst=some a) (σ σ1:St) :
 stepW call g d f x σ=some σ1 ↔ ∃ vs ag cs v,σ.env t=.tu vs∧vs[i]?=some (ag,cs)∧mkAV ag cs=some v∧σ1={ σ with env:=putD (upd σ.env t (.tu (vs.set i (ag,cs.map fun _=>.dead)))) (some a) v }:=by
 obtain ⟨dst,op,ty,pos,after,guard⟩:=x
 simp only at hx hd
 subst hx hd
 simp only [stepW,opE]
 constructor
 ·intro h
  rw [Option.bind_eq_some_iff] at h
  obtain ⟨⟨v,σ2⟩,h,h1⟩:=h
  split at h
  ·rename_i vs hvs
   simp only [bind,Option.bind_eq_some_iff,Option.some.injEq,Prod.mk.injEq] at h
   obtain ⟨⟨ag,cs⟩,hi,w,hw,rfl,rfl⟩:=h
   simp only [Option.some.injEq] at h1
   exact ⟨vs,ag,cs,w,hvs,hi,hw,h1.symm⟩
  ·cases h
 ·rintro ⟨vs,ag,cs,v,h1,h2,h3,rfl⟩
  simp only [h1,bind,h2,Option.bind_some,h3]
theorem extract_swap {call:Nat→List AV→(Key→Option (List C))→Option (AV × (Key→Option (List C)))} {g:Cfg} {d f:Nat} {x y:Oper} {t i j a b:Nat} (hx:x.op=.extract (.tmp t) i) (hy:y.op=.extract (.tmp t) j) (hdx:x.dst=some a) (hdy:y.dst=some b)
 (hij:i≠j) (hab:a≠b) (hat:a≠t) (hbt:b≠t) {σ σ1 σ2:St} (h1:stepW call g d f x σ=some σ1) (h2:stepW call g d f y σ1=some σ2):∃ σ1',stepW call g d f y σ=some σ1'∧stepW call g d f x σ1'=some σ2:=by
 obtain ⟨vs,ag,cs,v,e1,e2,e3,rfl⟩:=(zhe hx hdx _ _).1 h1
 obtain ⟨vs2,ag2,cs2,v2,f1,f2,f3,rfl⟩:=(zhe hy hdy _ _).1 h2
 simp only [putD,upd,if_neg (Ne.symm hat),if_true,AV.tu.injEq] at f1
 subst f1
 rw [List.getElem?_set_ne hij] at f2
 refine ⟨_,(zhe hy hdy _ _).2 ⟨vs,ag2,cs2,v2,e1,f2,f3,rfl⟩,(zhe hx hdx _ _).2 ⟨vs.set j (ag2,cs2.map fun _=>.dead),ag,cs,v,?_,?_,e3,?_⟩⟩
 ·simp [putD,upd,Ne.symm hbt]
 ·rw [List.getElem?_set_ne (Ne.symm hij)]
  exact e2
 ·congr 1
  funext u
  simp only [putD,upd]
  by_cases ua:u=a
  ·subst ua;simp [hab,hat,hbt]
  ·by_cases ub:u=b
   ·subst ub;simp [ua,hat,hbt]
   ·by_cases ut:u=t
    ·subst ut;simp [ua,ub,List.set_comm _ _ hij]
    ·simp [ua,ub,ut]

theorem zql {g:Cfg} {f:Nat} {x y:Oper} (h:givePair g f x y=true):∃ k args at_ e a b F,x.op=.call { callee:=.value (.func k),args,argTypes:=at_ }∧y.op=.alloc e∧x.dst=some a∧y.dst=some b∧x.guard=none∧y.guard=none∧isGive g f (some a)=true∧lookN k g.octx=some F∧a≠b∧posOf b args.toList 0=none:=by
 unfold givePair at h
 split at h
 ·rename_i k args at_ e a b h1 h2 h3 h4 h5 h6
  simp only [Bool.and_eq_true,bne_iff_ne,ne_eq,Option.isNone_iff_eq_none] at h
  obtain ⟨e1,e2,e3,e4⟩:=h
  obtain ⟨F,hF⟩:=Option.isSome_iff_exists.1 e2
  exact ⟨_,_,_,_,_,_,F,h1,h2,h3,h4,h5,h6,e1,hF,e3,e4⟩
 ·cases h
theorem zlj {b:Nat}:∀ {l:List Operand} {i:Nat},posOf b l i=none→∀ y∈l,y≠.tmp b
 | [],i,_,y,hy=>by cases hy
 | x :: r,i,h,y,hy=>by
  cases x with
  | tmp u =>
   simp only [posOf] at h
   split at h
   ·cases h
   ·rename_i hne
    rcases List.mem_cons.1 hy with rfl | hy
    ·rintro he;cases he;exact hne rfl
    ·exact zlj h y hy
  | _ =>
   simp only [posOf] at h
   rcases List.mem_cons.1 hy with rfl | hy
   ·simp
   ·exact zlj h y hy
theorem zqb (v:Value):(C.ofValue v).killB=C.ofValue v:=by
 unfold C.ofValue
 split
 ·rfl
 ·split <;> rfl
theorem give_octx {call:Nat→List AV→(Key→Option (List C))→Option (AV × (Key→Option (List C)))} {g:Cfg} {d f:Nat} {x:Oper} {k:Nat} {args:Array Operand} {at_:Array TypeId} {a:Nat} {F:List AV→Option AV} (hx:x.op=.call { callee:=.value (.func k),args,argTypes:=at_ }) (hd:x.dst=some a) (hg:isGive g f (some a)=true) (hF:lookN k g.octx=some F) (σ σ1:St) :
 stepX call g d f x σ=some σ1 ↔ nodupA args.toList=true∧∃ r,F (args.toList.map fun y=>(opnd σ.env y).killB)=some r∧σ1={ env:=putD (gaveEnv args.toList σ.env) (some a) r,mem:=σ.killB.mem }:=by
 obtain ⟨dst,op,ty,pos,after,guard⟩:=x
 simp only at hx hd
 subst hx hd
 have e:stepX call g d f { dst:=some a,op:=.call { callee:=.value (.func k),args,argTypes:=at_ },type:=ty,pos,after,guard } σ=giveStep call g d args.toList (some a) σ (some (k,[])):=by
  unfold stepX
  simp only [hg,if_true]
  rfl
 rw [e]
 unfold giveStep
 simp only [hF]
 constructor
 ·intro h
  split at h
  ·rename_i hn
   refine ⟨hn,?_⟩
   rw [Option.map_eq_some_iff] at h
   obtain ⟨rm,hrm,rfl⟩:=h
   rw [show List.isEmpty ([]:List AV)=true from rfl,if_pos rfl,Option.map_eq_some_iff] at hrm
   obtain ⟨r,hr,rfl⟩:=hrm
   exact ⟨r,hr,rfl⟩
  ·cases h
 ·rintro ⟨hn,r,hr,rfl⟩
  rw [if_pos hn,show List.isEmpty ([]:List AV)=true from rfl,if_pos rfl,hr]
  rfl
theorem give_swap {call:Nat→List AV→(Key→Option (List C))→Option (AV × (Key→Option (List C)))} {g:Cfg} {d f:Nat} {x y:Oper} {k:Nat} {args:Array Operand} {at_:Array TypeId} {e:TypeId} {a b:Nat} {F:List AV→Option AV} (hx:x.op=.call { callee:=.value (.func k),args,argTypes:=at_ }) (hy:y.op=.alloc e) (hdx:x.dst=some a) (hdy:y.dst=some b)
 (hg:isGive g f (some a)=true) (hF:lookN k g.octx=some F) (hab:a≠b) (hp:posOf b args.toList 0=none) {σ σ1 σ2:St} (h1:stepX call g d f x σ=some σ1) (h2:stepX call g d f y σ1=some σ2):∃ σ1',stepX call g d f y σ=some σ1'∧stepX call g d f x σ1'=some σ2:=by
 have sy:∀ τ τ1,stepX call g d f y τ=some τ1 ↔ ∃ i,ti g.P e=some i∧(τ.mem (d,b)=none∧¬ b=deepK)∧τ1={ env:=putD τ.env (some b) (.one (.ptr (d,b) 0)),mem:=upd τ.mem (d,b) (some (i.zero.map C.ofValue)) }:=fun τ τ1=>by
  have:stepX call g d f y τ=(opE g d f y τ).bind fun vs=>some { vs.2 with env:=putD vs.2.env y.dst vs.1 }:=by
   unfold stepX stepW
   rw [hy]
  rw [this]
  obtain ⟨dst,op,ty,pos,after,guard⟩:=y
  simp only at hy hdy
  subst hy hdy
  simp only [opE,bind]
  constructor
  ·intro h
   simp only [Option.bind_eq_some_iff] at h
   obtain ⟨⟨v,σ3⟩,⟨i,hi,t,ht,h⟩,h3⟩:=h
   cases ht
   split at h
   ·cases h
   ·rename_i hn
    simp only [Option.some.injEq,Prod.mk.injEq] at h
    obtain ⟨rfl,rfl⟩:=h
    simp only [Option.some.injEq] at h3
    exact ⟨i,hi,by simpa using hn,h3.symm⟩
  ·rintro ⟨i,hi,hn,rfl⟩
   simp [hi,hn]
 obtain ⟨hnd,r,hr,rfl⟩:=(give_octx hx hdx hg hF _ _).1 h1
 obtain ⟨i,hi,⟨hn,hnK⟩,rfl⟩:=(sy _ _).1 h2
 have hn0:σ.mem (d,b)=none:=by
  have hn:(σ.mem (d,b)).map (List.map C.killB)=none:=hn
  simpa using hn
 refine ⟨_,(sy _ _).2 ⟨i,hi,⟨hn0,hnK⟩,rfl⟩,(give_octx hx hdx hg hF _ _).2 ⟨hnd,r,?_,?_⟩⟩
 ·rw [← hr]
  congr 1
  refine List.map_congr_left fun y hy=>?_
  have hne:=zlj hp y hy
  cases y with
  | tmp u =>
   have:u≠b:=fun e=>hne (by rw [e])
   simp [opnd,putD,upd,this]
  | _=>rfl
 ·refine St.ext' (fun u=>?_) ?_
  ·simp only [putD,upd,gaveEnv]
   by_cases ub:u=b
   ·subst ub;simp [Ne.symm hab,hp,AV.killB,C.killB]
   ·by_cases ua:u=a
    ·subst ua;simp [hab]
    ·simp [ua,ub]
  ·funext K
   show upd (fun k=>(σ.mem k).map (List.map C.killB)) (d,b) _ K=(upd σ.mem (d,b) _ K).map (List.map C.killB)
   unfold upd
   by_cases hK:K=(d,b)
   ·simp only [hK,if_true,Option.map_some,List.map_map]
    congr 1
    exact List.map_congr_left fun v _=>(zqb v).symm
   ·simp only [hK,if_false]

theorem pair_swap {g:Cfg} {n d f:Nat} {ops:Array Oper} {x y:Oper} {lt:TypeId} {a:Operand} {t:Nat} {Pk:Key→Prop} (e1:x.op=.load lt a) (e3:x.dst=some t) (e4:x.guard=none) (e5:y.guard=none) (e6:g.tk f (some t)=false)
 (c1:disj (writesOf g f x) (readsOf ops y)=true) (c2:disj (writesOf g f x) (writesOf g f y)=true) (c3:disj (readsOf ops x) (writesOf g f y)=true) (hcy:clsB g f y true=.m∨clsB g f y true=.t) {σ σ1 σ2:St}
 (hl:σ1.mem=σ.mem∧∀ σ':St,opnd σ'.env a=opnd σ.env a→(∀ k,Pk k→σ'.mem k=σ.mem k)→∃ σ1',stepW (callN g n d) g d f x σ'=some σ1'∧σ1'.mem=σ'.mem∧σ1'.env t=σ1.env t∧∀ u,u≠t→σ1'.env u=σ'.env u)
 (hst':∀ σ1',stepW (callN g n d) g d f y σ=some σ1'→∀ k,Pk k→σ1'.mem k=σ.mem k)
 (h1:stepG (stepW (callN g n d) g d f) ops x σ=some σ1) (h2:stepG (stepW (callN g n d) g d f) ops y σ1=some σ2) :
 ∃ σ1',stepG (stepW (callN g n d) g d f) ops y σ=some σ1'∧stepG (stepW (callN g n d) g d f) ops x σ1'=some σ2:=by
 have sGx:∀ τ,stepG (stepW (callN g n d) g d f) ops x τ=stepW (callN g n d) g d f x τ:=fun τ=>by simp [stepG,wants,e4]
 have sGy:∀ τ,stepG (stepW (callN g n d) g d f) ops y τ=stepW (callN g n d) g d f y τ:=fun τ=>by simp [stepG,wants,e5]
 have sBx:∀ τ,stepB (stepW (callN g n d) g d f) ops x true τ=stepW (callN g n d) g d f x τ:=fun τ=>by simp [stepB,wants,e4]
 have sBy:∀ τ,stepB (stepW (callN g n d) g d f) ops y true τ=stepW (callN g n d) g d f y τ:=fun τ=>by simp [stepB,wants,e5]
 have hwx:∀ u,u∈writesOf g f x ↔ u=t:=fun u=>by simp [writesOf,e1,e3]
 rw [sGx] at h1
 rw [sGy] at h2
 obtain ⟨hm1,hext⟩:=hl
 have hx:=zgc g n d f ops x true
 have hy:=zgc g n d f ops y true
 have hye:∀ τ τ1 τ',stepB (stepW (callN g n d) g d f) ops y true τ=some τ1→(∀ t∈readsOf ops y,τ'.env t=τ.env t)→τ'.mem=τ.mem →
  ∃ τ1',stepB (stepW (callN g n d) g d f) ops y true τ'=some τ1'∧(∀ t∈writesOf g f y,τ1'.env t=τ1.env t)∧τ1'.mem=τ1.mem:=by
  rcases hcy with hc | hc
  ·rw [hc] at hy;exact hy.ext
  ·rw [hc] at hy;exact hy.ext
 have hey:=hx.env σ σ1 (by rw [sBx];exact h1)
 have hey2:=hy.env σ1 σ2 (by rw [sBy];exact h2)
 obtain ⟨σ1',hy1,ew,mw⟩:=hye σ1 σ2 σ (by rw [sBy];exact h2) (fun u hu=>(hey u (fun hw=>zek c1 hw hu)).symm) hm1.symm
 rw [sBy] at hy1
 have hey1:=hy.env σ σ1' (by rw [sBy];exact hy1)
 have hst:=hst' σ1' hy1
 obtain ⟨σ2',hx2,hmm,ht,hu⟩:=hext σ1' (zbk (ops:=ops) (o:=x) (x:=a) (fun u hu=>hey1 u (zek c3 hu)) (by rw [e1];simp [Op.operands])) hst
 refine ⟨σ1',by rw [sGy];exact hy1,?_⟩
 rw [sGx,hx2]
 congr 1
 refine St.ext' (fun u=>?_) ?_
 ·by_cases hut:u=t
  ·subst hut
   rw [ht]
   exact (hey2 u (zek c2 ((hwx u).2 rfl))).symm
  ·rw [hu u hut]
   by_cases hwy:u∈writesOf g f y
   ·exact ew u hwy
   ·rw [hey1 u hwy,hey2 u hwy,hey u (fun h=>hut ((hwx u).1 h))]
 ·rw [hmm]
  exact mw

theorem pair_swap2 {g:Cfg} {n d f:Nat} {ops:Array Oper} {x y:Oper} {lt:TypeId} {a:Operand} {t:Nat} {Pk:Key→Prop} (e1:x.op=.load lt a) (e3:x.dst=some t) (e4:x.guard=none) (e5:y.guard=none) (e6:g.tk f (some t)=false)
 (c1:disj (writesOf g f y) (readsOf ops x)=true) (c2:disj (writesOf g f y) (writesOf g f x)=true) (c3:disj (readsOf ops y) (writesOf g f x)=true) (hcy:clsB g f y true=.m) {σ σ1 σ2:St}
 (hl:σ2.mem=σ1.mem∧∀ σ':St,opnd σ'.env a=opnd σ1.env a→(∀ k,Pk k→σ'.mem k=σ1.mem k)→∃ σ1',stepW (callN g n d) g d f x σ'=some σ1'∧σ1'.mem=σ'.mem∧σ1'.env t=σ2.env t∧∀ u,u≠t→σ1'.env u=σ'.env u)
 (hst:∀ k,Pk k→σ1.mem k=σ.mem k)
 (h1:stepG (stepW (callN g n d) g d f) ops y σ=some σ1) (h2:stepG (stepW (callN g n d) g d f) ops x σ1=some σ2) :
 ∃ σ1',stepG (stepW (callN g n d) g d f) ops x σ=some σ1'∧stepG (stepW (callN g n d) g d f) ops y σ1'=some σ2:=by
 have sGx:∀ τ,stepG (stepW (callN g n d) g d f) ops x τ=stepW (callN g n d) g d f x τ:=fun τ=>by simp [stepG,wants,e4]
 have sGy:∀ τ,stepG (stepW (callN g n d) g d f) ops y τ=stepW (callN g n d) g d f y τ:=fun τ=>by simp [stepG,wants,e5]
 have sBx:∀ τ,stepB (stepW (callN g n d) g d f) ops x true τ=stepW (callN g n d) g d f x τ:=fun τ=>by simp [stepB,wants,e4]
 have sBy:∀ τ,stepB (stepW (callN g n d) g d f) ops y true τ=stepW (callN g n d) g d f y τ:=fun τ=>by simp [stepB,wants,e5]
 have hwx:∀ u,u∈writesOf g f x ↔ u=t:=fun u=>by simp [writesOf,e1,e3]
 have htw:t ∉ writesOf g f y:=fun h=>zek c2 h ((hwx t).2 rfl)
 rw [sGy] at h1
 rw [sGx] at h2
 obtain ⟨hm1,hext⟩:=hl
 have hx:=zgc g n d f ops x true
 have hy:=zgc g n d f ops y true
 rw [hcy] at hy
 have hey:=hy.env σ σ1 (by rw [sBy];exact h1)
 have hey2:=hx.env σ1 σ2 (by rw [sBx];exact h2)
 obtain ⟨τ,hx1,hmm,ht,hu⟩:=hext σ (zbk (ops:=ops) (o:=x) (x:=a) (fun u hu=>(hey u fun hw=>zek c1 hw hu).symm) (by rw [e1];simp [Op.operands])) (fun k hk=>(hst k hk).symm)
 obtain ⟨σ2',hy1,ew,mw⟩:=hy.ext σ σ1 τ (by rw [sBy];exact h1) (fun u hr=>hu u (by rintro rfl;exact zek c3 hr ((hwx _).2 rfl))) hmm
 rw [sBy] at hy1
 have hey3:=hy.env τ σ2' (by rw [sBy];exact hy1)
 refine ⟨τ,by rw [sGx];exact hx1,?_⟩
 rw [sGy,hy1]
 congr 1
 refine St.ext' (fun u=>?_) ?_
 ·by_cases hut:u=t
  ·subst hut
   rw [hey3 _ htw,ht]
  ·have hxu:u ∉ writesOf g f x:=fun h=>hut ((hwx u).1 h)
   by_cases hwy:u∈writesOf g f y
   ·rw [ew u hwy,hey2 u hxu]
   ·rw [hey3 u hwy,hu u hut,hey2 u hxu,hey u hwy]
 ·exact mw.trans hm1.symm

theorem take_fwd {g:Cfg} {d f:Nat} {call:Nat→List AV→(Key→Option (List C))→Option (AV × (Key→Option (List C)))} {x:Oper} {lt:TypeId} {a:Operand} {t:Nat} (hx:x.op=.load lt a) (hd:x.dst=some t) (htk:g.tk f (some t)=true)
 (haw:g.away.contains (f,t,farM)=true) {σ σ1:St} (h:stepW call g d f x σ=some σ1) :
 (∃ (k:Key) (cs new:List C) (v:AV),(k.1=d∧k.2 < adoptK)∧σ.mem k=some cs∧σ1={ env:=putD σ.env (some t) v,mem:=upd σ.mem k (some new) } ∧
  ∀ σ':St,opnd σ'.env a=opnd σ.env a→σ'.mem k=some cs→stepW call g d f x σ'=some { env:=putD σ'.env (some t) v,mem:=upd σ'.mem k (some new) }) ∨
 ∃ v:AV,σ1={ env:=putD σ.env (some t) v,mem:=σ.mem }∧∀ σ':St,opnd σ'.env a=opnd σ.env a→stepW call g d f x σ'=some { env:=putD σ'.env (some t) v,mem:=σ'.mem }:=by
 obtain ⟨dst,op,ty,pos,after,guard⟩:=x
 simp only at hx hd
 subst hx hd
 simp only [stepW,Option.bind_eq_some_iff] at h
 obtain ⟨⟨v,σ2⟩,h,h1⟩:=h
 simp only [Option.some.injEq] at h1
 simp only [opE,htk,if_true,bind,Option.bind_eq_some_iff] at h
 obtain ⟨i,hi,h⟩:=h
 split at h
 ·rename_i k off hq
  simp only [Option.bind_eq_some_iff] at h
  obtain ⟨cs,hcs,sg,hsg,h⟩:=h
  split at h
  ·cases h
  ·rename_i hcond
   simp only [Option.bind_eq_some_iff,Option.some.injEq,Prod.mk.injEq] at h
   obtain ⟨v',hv,rfl,rfl⟩:=h
   subst h1
   have hk:k.1=d∧k.2 < adoptK:=by
    have h2:awayB g d f (some t) k=false:=by
     cases hl:awayB g d f (some t) k with
     | false=>rfl
     | true=>exact absurd (.inr (.inr hl)) hcond
    simp only [awayB] at h2
    rw [List.any_eq_false] at h2
    have:=h2 (f,t,farM) (by simpa using haw)
    simp only [beq_self_eq_true,Bool.true_and,Bool.or_eq_true,decide_eq_true_eq,not_or,Decidable.not_not,Nat.not_le] at this
    exact this.2
   refine .inl ⟨k,cs,_,v',hk,hcs,rfl,fun σ' ha hm=>?_⟩
   have hc2:¬ ((k.1≠d∧¬ (k.1+1=d∧(σ'.mem (d,deepK)).isSome=true))∨(lateB g d f a k=true∨awayB g d f (some t) k=true)):=by
    rintro (h | h)
    ·exact h.1 hk.1
    ·exact hcond (.inr h)
   simp only [stepW,opE,htk,if_true,bind,hi,Option.bind_some,ha,hq,hm,hsg,if_neg hc2,hv]
 ·rename_i hq
  simp only [Option.bind_eq_some_iff,Option.some.injEq,Prod.mk.injEq] at h
  obtain ⟨sg,hsg,v',hv,rfl,rfl⟩:=h
  subst h1
  refine .inr ⟨v',rfl,fun σ' ha=>?_⟩
  simp only [stepW,opE,bind,hi,Option.bind_some,ha,hq,hsg,hv]
 ·cases h
theorem px_fwd {g:Cfg} {n d f:Nat} {y:Oper} {k:Nat} {args:Array Operand} {at_:Array TypeId} {F:List C→List AV→Option (AV × List C)} (hy:y.op=.call { callee:=.value (.func k),args,argTypes:=at_ }) (h0:lookN k g.ctx=none) (hp:lookN k g.pctx=some F) (hro:isRo g f y.dst=false) (hn:g.near=false)
 {σ σ1:St} (h:stepW (callN g n d) g d f y σ=some σ1):∃ (K:Key) (cs:List C) (rc:AV × List C),(K.1≠d∨adoptK≤K.2)∧σ.mem K=some cs∧σ1={ env:=putD σ.env y.dst rc.1,mem:=upd σ.mem K (some rc.2) } ∧
  ∀ σ':St,(∀ z∈args.toList,opnd σ'.env z=opnd σ.env z)→σ'.mem K=some cs→stepW (callN g n d) g d f y σ'=some { env:=putD σ'.env y.dst rc.1,mem:=upd σ'.mem K (some rc.2) }:=by
 rw [zdo hy,Option.bind_eq_some_iff] at h
 obtain ⟨kc,hkc,h⟩:=h
 cases hkc
 rw [Option.bind_eq_some_iff] at h
 obtain ⟨⟨r,m⟩,hrm,h⟩:=h
 unfold callEnd at h
 rw [if_neg (by rw [hro];simp)] at h
 simp only [Option.some.injEq] at h
 subst h
 cases n with
 | zero=>rw [callN] at hrm;cases hrm
 | succ n =>
  rw [callN,h0] at hrm
  simp only at hrm
  split at hrm
  ·rename_i fn hfn
   split at hrm
   ·rename_i c hbody
    have hok:fnOK g k fn=false:=by unfold fnOK;rw [hp];simp
    have hc:∀ l:List AV,((!fnOK g k fn || decide (l.length > fn.ntmps))=true):=fun l=>by rw [hok];rfl
    rw [if_pos (hc _),hp] at hrm
    obtain ⟨K,az_,cs,rc,e1,e2,e3,e4,e5,e6,e7⟩:=zjr hrm
    subst e6 e7
    rw [hn] at e3
    refine ⟨K,cs,rc,e3.resolve_left (by simp),e4,rfl,fun σ' ha hm=>?_⟩
    have hargs:args.toList.map (fun y=>(opnd σ'.env y).copy)=args.toList.map (fun y=>(opnd σ.env y).copy):=List.map_congr_left fun z hz=>by rw [ha z hz]
    rw [zdo hy]
    show (callN g (n+1) d k (args.toList.map (fun y=>(opnd σ'.env y).copy) ++ []) σ'.mem).bind _=_
    rw [hargs,callN,h0]
    simp only [hfn,hbody]
    rw [if_pos (hc _),hp]
    have e1':args.toList.map (fun y=>(opnd σ.env y).copy) ++ []=.one (.ptr K 0) :: az_:=e1
    have e3':(az_.all AV.shr? && (g.near || decide (K.1≠d∨adoptK≤K.2)))=true:=by rw [e2,hn];simpa using e3.resolve_left (by simp)
    unfold pxCall
    rw [e1']
    simp only [e3',if_true,hm,Option.bind_some,e5]
    unfold callEnd
    rw [if_neg (by rw [hro];simp)]
   ·cases hrm
  ·cases hrm
theorem farTake_spec {g:Cfg} {f:Nat} {x y:Oper} (h:farTake g f x y=true):∃ lt a t k args at_ F,x.op=.load lt a∧x.dst=some t∧x.guard=none∧y.guard=none∧g.tk f (some t)=true∧g.away.contains (f,t,farM)=true∧y.op=.call { callee:=.value (.func k),args,argTypes:=at_ }∧lookN k g.ctx=none∧lookN k g.pctx=some F∧isRo g f y.dst=false∧g.near=false:=by
 unfold farTake at h
 split at h
 ·rename_i lt a k args at_ t h1 h2 h3 h4 h5
  simp only [Bool.and_eq_true,Bool.not_eq_true',Option.isNone_iff_eq_none,Option.isSome_iff_exists] at h
  obtain ⟨e1,e2,e3,⟨F,e4⟩,e5,e6⟩:=h
  exact ⟨_,_,_,_,_,_,F,h1,h3,h4,h5,e1,e2,h2,e3,e4,e5,e6⟩
 ·cases h
theorem take_swap {g:Cfg} {n d f:Nat} {ops:Array Oper} {x y:Oper} (hc:farTake g f x y=true) (c1:disj (writesOf g f x) (readsOf ops y)=true) (c2:disj (writesOf g f x) (writesOf g f y)=true) (c3:disj (readsOf ops x) (writesOf g f y)=true) {σ σ1 σ2:St}
 (h1:stepG (stepW (callN g n d) g d f) ops x σ=some σ1) (h2:stepG (stepW (callN g n d) g d f) ops y σ1=some σ2) :
 ∃ σ1',stepG (stepW (callN g n d) g d f) ops y σ=some σ1'∧stepG (stepW (callN g n d) g d f) ops x σ1'=some σ2:=by
 obtain ⟨lt,a,t,k,args,at_,F,e1,e3,e4,e5,e6,e7,e2,e8,e9,e10,e11⟩:=farTake_spec hc
 have sGx:∀ τ,stepG (stepW (callN g n d) g d f) ops x τ=stepW (callN g n d) g d f x τ:=fun τ=>by simp [stepG,wants,e4]
 have sGy:∀ τ,stepG (stepW (callN g n d) g d f) ops y τ=stepW (callN g n d) g d f y τ:=fun τ=>by simp [stepG,wants,e5]
 rw [sGx] at h1
 rw [sGy] at h2
 obtain ⟨K,cs,rc,hK,hm,rfl,hfw⟩:=px_fwd e2 e8 e9 e10 e11 h2
 have hwt:t∈writesOf g f x:=by rw [zgg,e3];simp
 have hyd:∀ u,y.dst=some u→u∈writesOf g f y:=fun u hu=>by rw [zgg,hu];simp
 have hyw:∀ u,u∈writesOf g f y→y.dst=some u:=fun u hu=>by
  have hW:writesOf g f y=y.dst.toList:=by unfold writesOf;rw [e2];simp
  rw [hW] at hu
  simpa using hu
 have hty:y.dst≠some t:=fun h=>zek c2 hwt (hyd t h)
 have hargs:∀ (env env':Nat→AV),(∀ u,u≠t→env' u=env u)→∀ z∈args.toList,opnd env' z=opnd env z:=fun env env' he z hz=>by
  cases z with
  | tmp u =>
   refine he u ?_
   rintro rfl
   refine zek c1 hwt ?_
   unfold readsOf
   rw [List.mem_append]
   left
   rw [List.mem_filterMap]
   refine ⟨.tmp u,?_,rfl⟩
   rw [e2]
   simp only [Op.operands,Call.operands]
   simpa using hz
  | _=>rfl
 have hopa:∀ (env:Nat→AV) (v:AV),opnd (putD env y.dst v) a=opnd env a:=fun env v=>by
  cases a with
  | tmp u =>
   show putD env y.dst v u=env u
   refine zgp fun hu=>?_
   refine zek c3 (t:=u) ?_ (hyd u hu)
   unfold readsOf
   rw [List.mem_append]
   left
   rw [List.mem_filterMap]
   exact ⟨.tmp u,by rw [e1];simp [Op.operands],rfl⟩
  | _=>rfl
 have hcomm:∀ (env:Nat→AV) (v w:AV),putD (putD env (some t) v) y.dst w=putD (putD env y.dst w) (some t) v:=fun env v w=>by
  funext u
  cases hyd2:y.dst with
  | none=>rfl
  | some q =>
   have:q≠t:=fun h=>hty (by rw [hyd2,h])
   simp only [putD,upd]
   by_cases hq:u=q
   ·subst hq;simp [this]
   ·simp [hq]
 rcases take_fwd e1 e3 e6 e7 h1 with ⟨k0,cs0,new,v,hk0,hm0,rfl,hx⟩|⟨v,rfl,hx⟩
 ·have hne:K≠k0:=by
   rintro rfl
   rcases hK with h | h
   ·exact h hk0.1
   ·omega
  have hm':σ.mem K=some cs:=by
   have:upd σ.mem k0 (some new) K=some cs:=hm
   simpa [upd,hne] using this
  have hy1:=hfw σ (fun z hz=>hargs (putD σ.env (some t) v) σ.env (fun u hu=>by simp [putD,upd,hu]) z hz) hm'
  refine ⟨_,by rw [sGy];exact hy1,?_⟩
  rw [sGx,hx _ (hopa _ _) (by show upd σ.mem K (some rc.2) k0=_;simp [upd,Ne.symm hne,hm0])]
  congr 1
  refine St.ext' (fun u=>?_) ?_
  ·exact (congrFun (hcomm σ.env v rc.1) u).symm
  ·funext q
   show upd (upd σ.mem K (some rc.2)) k0 (some new) q=upd (upd σ.mem k0 (some new)) K (some rc.2) q
   unfold upd
   by_cases h1:q=K
   ·subst h1;simp [hne]
   ·simp [h1]
 ·have hy1:=hfw σ (fun z hz=>hargs (putD σ.env (some t) v) σ.env (fun u hu=>by simp [putD,upd,hu]) z hz) hm
  refine ⟨_,by rw [sGy];exact hy1,?_⟩
  rw [sGx,hx _ (hopa _ _)]
  congr 1
  refine St.ext' (fun u=>?_) rfl
  exact (congrFun (hcomm σ.env v rc.1) u).symm

theorem stepG_swap {g:Cfg} {n d f:Nat} {ops:Array Oper} {x y:Oper} (h:comm g f ops x y=true) {σ σ1 σ2:St} (h1:stepG (stepX (callN g n d) g d f) ops x σ=some σ1) (h2:stepG (stepX (callN g n d) g d f) ops y σ1=some σ2) :
 ∃ σ1',stepG (stepX (callN g n d) g d f) ops y σ=some σ1'∧stepG (stepX (callN g n d) g d f) ops x σ1'=some σ2:=by
 unfold comm at h
 rw [Bool.or_eq_true] at h
 rcases h with h | h
 rotate_left
 ·rw [Bool.or_eq_true] at h
  rcases h with h | h
  rotate_left
  ·obtain ⟨k,args,at_,e,a,b,F,e1,e2,e3,e4,e5,e6,e7,e8,e9,e10⟩:=zql h
   have sx:∀ τ,stepG (stepX (callN g n d) g d f) ops x τ=stepX (callN g n d) g d f x τ:=fun τ=>by simp [stepG,wants,e5]
   have sy:∀ τ,stepG (stepX (callN g n d) g d f) ops y τ=stepX (callN g n d) g d f y τ:=fun τ=>by simp [stepG,wants,e6]
   simp only [sx,sy] at h1 h2 ⊢
   exact give_swap e1 e2 e3 e4 e7 e8 e9 e10 h1 h2
  obtain ⟨t,i,j,a,b,e1,e2,e3,e4,e5,e6,e7,e8,e9,e10⟩:=extPair_spec h
  have sx:∀ τ,stepG (stepX (callN g n d) g d f) ops x τ=stepW (callN g n d) g d f x τ:=fun τ=>by
   have:stepX (callN g n d) g d f x τ=stepW (callN g n d) g d f x τ:=by unfold stepX;rw [e1]
   simp [stepG,wants,e5,this]
  have sy:∀ τ,stepG (stepX (callN g n d) g d f) ops y τ=stepW (callN g n d) g d f y τ:=fun τ=>by
   have:stepX (callN g n d) g d f y τ=stepW (callN g n d) g d f y τ:=by unfold stepX;rw [e2]
   simp [stepG,wants,e6,this]
  simp only [sx,sy] at h1 h2 ⊢
  exact extract_swap e1 e2 e3 e4 e7 e8 e9 e10 h1 h2
 simp only [Bool.and_eq_true,Bool.not_eq_true'] at h
 obtain ⟨⟨⟨⟨c1,c2⟩,c3⟩,c4⟩,c5,c6⟩:=h
 have sxx:∀ τ,stepG (stepX (callN g n d) g d f) ops x τ=stepG (stepW (callN g n d) g d f) ops x τ:=fun τ=>by unfold stepG;rw [zha c5]
 have sxy:∀ τ,stepG (stepX (callN g n d) g d f) ops y τ=stepG (stepW (callN g n d) g d f) ops y τ:=fun τ=>by unfold stepG;rw [zha c6]
 simp only [sxx,sxy] at h1 h2 ⊢
 rw [Bool.or_eq_true] at c4
 rcases c4 with c4 | c4
 rotate_left
 ·rw [Bool.or_eq_true] at c4
  rcases c4 with c4 | c4
  rotate_left
  ·rw [Bool.or_eq_true] at c4
   rcases c4 with c4 | c4
   rotate_left
   ·rw [Bool.or_eq_true] at c4
    rcases c4 with c4 | c4
    rotate_left
    ·exact take_swap c4 c1 c2 c3 h1 h2
    obtain ⟨lt,a,t,k,args,at_,F,e1,e3,e4,e5,e6,e7,e2,e8,e9,e10,e11⟩:=zly c4
    exact pair_swap2 (Pk:=fun k=>k.1=d∧k.2 < adoptK) e1 e3 e4 e5 e6 c1 c2 c3 (by simp [clsB,clsOf,e2,e8,e10]) (load_far e1 e3 e6 e7 (by have:=h2;simpa [stepG,wants,e4] using this)) (call_far e2 e8 e9 e10 e11 (by have:=h1;simpa [stepG,wants,e5] using this)) h1 h2
   obtain ⟨lt,a,t,k,args,at_,F,e1,e3,e4,e5,e6,e7,e2,e8,e9,e10,e11⟩:=zly c4
   refine pair_swap (Pk:=fun k=>k.1=d∧k.2 < adoptK) e1 e3 e4 e5 e6 c1 c2 c3 (.inl (by simp [clsB,clsOf,e2,e8,e10])) (load_far e1 e3 e6 e7 (by have:=h1;simpa [stepG,wants,e4] using this)) (fun σ1' hy1=>call_far e2 e8 e9 e10 e11 hy1) h1 h2
  obtain ⟨lt,a,b,t,e1,e3,e4,e5,e6,e7,e2⟩:=zqt c4
  have hcy:clsB g f y true=.m∨clsB g f y true=.t:=by
   rcases e2 with ⟨st,v,e2⟩|⟨st,e2,e8⟩
   ·exact .inl (by simp [clsB,clsOf,e2])
   ·exact .inr (by simp [clsB,clsOf,e2,e8])
  refine pair_swap (Pk:=fun k=>k≠(d,b)) e1 e3 e4 e5 e6 c1 c2 c3 hcy (load_away e1 e3 e6 e7 (by have:=h1;simpa [stepG,wants,e4] using this)) (fun σ1' hy1=>?_) h1 h2
  rcases e2 with ⟨st,v,e2⟩|⟨st,e2,e8⟩
  ·exact store_late e2 e7 hy1
  ·exact take_late e2 e8 e7 hy1
 obtain ⟨bx,h1⟩:=stepG_iff.1 h1
 obtain ⟨by_,h2⟩:=stepG_iff.1 h2
 obtain ⟨σ1',a1,a2⟩:=swap (zgc g n d f ops x bx) (zgc g n d f ops y by_) (fun t ht=>zek c1 ht) (fun t ht=>zek c2 ht) (fun t ht=>zek c3 ht) (clsB_ok c4 bx by_)
  (fun hx hy hk=>by
   have e1:=stepB_a hx h1
   have e2:=stepB_a hy h2
   cases hdx:x.dst with
   | none=>rw [hdx] at e1;cases e1
   | some t =>
    cases hdy:y.dst with
    | none=>rw [hdy] at e2;cases e2
    | some u =>
     rw [hdx,hdy] at hk
     simp at hk
     subst hk
     exact zek c2 (t:=t) (by rw [zgg,hdx];simp) (by rw [zgg,hdy];simp)) h1 h2
 exact ⟨σ1',stepG_iff.2 ⟨by_,a1⟩,stepG_iff.2 ⟨bx,a2⟩⟩

def irun (S:Oper→St→Option St) (ops:Array Oper):List Nat→St→Option St
 | [],σ=>some σ
 | i :: r,σ=>(ops[i]?).bind fun o=>(stepG S ops o σ).bind (irun S ops r)

theorem zox (S:Oper→St→Option St) (ops:Array Oper):∀ (k i:Nat),i+k=ops.size→∀ σ,irun S ops (List.range' i k) σ=arun S ops (ops.toList.drop i) σ
 | 0,i,hi,σ=>by
  rw [List.drop_eq_nil_of_le (by rw [Array.length_toList];omega)]
  rfl
 | k+1,i,hi,σ=>by
  have hlt:i < ops.toList.length:=by rw [Array.length_toList];omega
  rw [List.drop_eq_getElem_cons hlt,List.range'_succ]
  have ho:ops[i]?=some ops.toList[i]:=by rw [← Array.getElem?_toList];exact List.getElem?_eq_getElem hlt
  simp only [irun,ho,arun,Option.bind_some]
  congr 1
  funext σ'
  exact zox S ops k (i+1) (by omega) σ'

def commI (g:Cfg) (f:Nat) (ops:Array Oper) (j i:Nat):Prop:=∀ x y,ops[j]?=some x→ops[i]?=some y→comm g f ops x y=true

theorem zoy {g:Cfg} {n d f:Nat} {ops:Array Oper} {i:Nat} {post:List Nat}:∀ (pre:List Nat) (σ σ':St),(∀ j∈pre,commI g f ops j i) →
 irun (stepX (callN g n d) g d f) ops (pre ++ i :: post) σ=some σ'→irun (stepX (callN g n d) g d f) ops (i :: (pre ++ post)) σ=some σ'
 | [],σ,σ',_,h=>h
 | j :: pre,σ,σ',hc,h=>by
  simp only [List.cons_append,irun,Option.bind_eq_some_iff] at h
  obtain ⟨x,hx,σ1,h1,h2⟩:=h
  have ih:=zoy pre σ1 σ' (fun k hk=>hc k (List.mem_cons_of_mem _ hk)) h2
  simp only [irun,Option.bind_eq_some_iff] at ih
  obtain ⟨y,hy,σ2,h3,h4⟩:=ih
  obtain ⟨σ1',a1,a2⟩:=stepG_swap (hc j (List.mem_cons_self ..) x y hx hy) h1 h3
  simp only [List.cons_append,irun,Option.bind_eq_some_iff]
  exact ⟨y,hy,σ1',a1,x,hx,σ2,a2,h4⟩

theorem bef_pred {ops:Array Oper} {rem:List Nat} (hcl:∀ j∈rem,∀ (i:Nat) y,ops[i]?=some y→(∃ e∈y.after,e.on=j∧Region.binds .any e=true)→i∈rem) :
 ∀ (n j i:Nat),j∈rem→bef ops n j i=true→∃ y,ops[i]?=some y∧∃ e∈y.after,Region.binds .any e=true∧e.on∈rem
 | 0,j,i,_,h=>by cases h
 | n+1,j,i,hj,h=>by
  rw [bef] at h
  split at h
  ·rename_i y hy
   refine ⟨y,hy,?_⟩
   rw [Array.any_eq_true] at h
   obtain ⟨q,hq,h⟩:=h
   rw [Bool.and_eq_true,Bool.or_eq_true] at h
   obtain ⟨hb,h⟩:=h
   refine ⟨_,Array.getElem_mem hq,hb,?_⟩
   rcases h with h | h
   ·rw [beq_iff_eq] at h
    rw [h]
    exact hj
   ·obtain ⟨y2,hy2,e2,he2,hb2,hr2⟩:=bef_pred hcl n j _ hj h
    exact hcl e2.on hr2 _ y2 hy2 ⟨e2,he2,rfl,hb2⟩
  ·cases h

theorem wpAny_run {P:Program} {g:Cfg} {n d f N:Nat} {ops:Array Oper} {Q:Exit→Act→World→Prop} (hS:∀ o∈ops.toList,∀ σ σ',stepX (callN g n d) g d f o σ=some σ'→StepOK P d N o σ σ')
 (hd:∀ o∈ops.toList,o.dst.all (· < N)=true) (hok:regionOK g f ops=true):∀ (fuel:Nat) (rem:List Nat) (listed:Array Bool) (G:Gh) (w:World) (a:Act) (σ σ':St),rem.length≤fuel→listed.size=ops.size→rem.Pairwise (· < ·) →
 (∀ i,i∈rem ↔ i < ops.size∧listed.getD i true=false)→(∀ j∈rem,∀ (i:Nat) y,ops[i]?=some y→(∃ e∈y.after,e.on=j∧Region.binds .any e=true)→i∈rem)→Sim d N G σ a.tmps w→irun (stepX (callN g n d) g d f) ops rem σ=some σ' →
 (∀ G' a' w',Sim d N G' σ' a'.tmps w'→Frm d G w G' w'→a'.defers=a.defers→Q .normal a' w')→wpAny P .any ops Q fuel listed a w:=by
 have hreg:∀ i y,ops[i]?=some y→(∀ e∈y.after,Region.binds .any e=true→e.on < i)∧∀ j x,j < i→ops[j]?=some x→(∃ e∈y.after,e.on=j∧Region.binds .any e=true)∨comm g f ops x y=true∨bef ops ops.size j i=true:=by
  intro i y hy
  have hi:i < ops.size:=(Array.getElem?_eq_some_iff.1 hy).1
  unfold regionOK at hok
  rw [List.all_eq_true] at hok
  have:=hok i (List.mem_range.2 hi)
  rw [hy] at this
  simp only [Bool.and_eq_true] at this
  obtain ⟨t1,t2⟩:=this
  refine ⟨fun e he hb=>?_,fun j x hj hx=>?_⟩
  ·rw [Array.all_eq_true_iff_forall_mem] at t1
   have:=t1 e he
   rw [hb] at this
   simpa using this
  ·rw [List.all_eq_true] at t2
   have:=t2 j (List.mem_range.2 hj)
   rw [hx] at this
   simp only [Bool.or_eq_true] at this
   rcases this with h | h
   ·left
    rw [Array.any_eq_true] at h
    obtain ⟨q,hq,h⟩:=h
    simp only [Bool.and_eq_true,beq_iff_eq] at h
    exact ⟨_,Array.getElem_mem hq,h.1,h.2⟩
   ·exact .inr h
 intro fuel
 induction fuel with
 | zero =>
  intro rem listed G w a σ σ' hlen hsz hp hl hcl hs hr hQ
  have:rem=[]:=List.length_eq_zero_iff.1 (by omega)
  subst this
  simp only [irun,Option.some.injEq] at hr
  subst hr
  refine ⟨?_,hQ G a w hs (Frm.refl _ _ _) rfl⟩
  unfold Region.ready
  rw [List.filter_eq_nil_iff]
  intro i hi hh
  simp only [Bool.and_eq_true,Bool.not_eq_true'] at hh
  have:=(hl i).2 ⟨List.mem_range.1 hi,hh.1⟩
  cases this
 | succ fuel ih =>
  intro rem listed G w a σ σ' hlen hsz hp hl hcl hs hr hQ
  refine ⟨fun hnil=>?_,fun i hi=>?_⟩
  ·cases rem with
   | nil =>
    simp only [irun,Option.some.injEq] at hr
    subst hr
    exact hQ G a w hs (Frm.refl _ _ _) rfl
   | cons i rem =>
    exfalso
    have hi:=(hl i).1 (List.mem_cons_self ..)
    have hready:i∈Region.ready .any ops listed:=by
     unfold Region.ready
     rw [List.mem_filter]
     refine ⟨List.mem_range.2 hi.1,?_⟩
     have hy:ops[i]?=some ops[i]:=Array.getElem?_eq_getElem hi.1
     rw [hy,hi.2]
     simp only [Option.map_some,Option.getD_some,Bool.not_false,Bool.true_and]
     rw [Array.all_eq_true_iff_forall_mem]
     intro e he
     cases hb:Region.binds .any e with
     | false=>rfl
     | true =>
      have hlt:=(hreg i _ hy).1 e he hb
      simp only [Bool.not_true,Bool.false_or]
      cases hle:listed.getD e.on false with
      | true=>rfl
      | false =>
       have hlt2:e.on < ops.size:=by omega
       have:listed.getD e.on true=false:=by
        rw [Array.getD_eq_getD_getElem?] at hle ⊢
        rw [Array.getElem?_eq_getElem (by omega)] at hle ⊢
        exact hle
       have hmem:=(hl e.on).2 ⟨hlt2,this⟩
       rw [List.pairwise_cons] at hp
       cases hmem with
       | head=>omega
       | tail _ hm=>have:=hp.1 _ hm;omega
    rw [hnil] at hready
    cases hready
  ·unfold Region.ready at hi
   rw [List.mem_filter] at hi
   obtain ⟨hi1,hi2⟩:=hi
   have hi1:=List.mem_range.1 hi1
   simp only [Bool.and_eq_true,Bool.not_eq_true'] at hi2
   have hy:ops[i]?=some ops[i]:=Array.getElem?_eq_getElem hi1
   obtain ⟨hi2,hi3⟩:=hi2
   rw [hy] at hi3
   simp only [Option.map_some,Option.getD_some] at hi3
   rw [Array.all_eq_true_iff_forall_mem] at hi3
   have hmem:=(hl i).2 ⟨hi1,hi2⟩
   obtain ⟨pre,post,rfl⟩:=List.append_of_mem hmem
   have hno:∀ e∈(ops[i]).after,Region.binds .any e=true→e.on∈pre ++ i :: post→False:=fun e he hb hr2=>by
    have h3:=hi3 e he
    rw [hb] at h3
    simp only [Bool.not_true,Bool.false_or] at h3
    have:=(hl e.on).1 hr2
    rw [Array.getD_eq_getD_getElem?] at h3 this
    rw [Array.getElem?_eq_getElem (by omega)] at h3
    rw [Array.getElem?_eq_getElem (by omega)] at this
    simp only [Option.getD_some] at h3 this
    rw [this.2] at h3
    cases h3
   have hfront:=zoy pre σ σ' (fun j hj=>by
    intro x y hx hy'
    rw [hy] at hy'
    cases hy'
    have hji:j < i:=by
     rw [List.pairwise_append] at hp
     exact hp.2.2 j hj i (List.mem_cons_self ..)
    rcases (hreg i _ hy).2 j x hji hx with ⟨e,he,rfl,hb⟩ | h | h
    ·exact (hno e he hb (List.mem_append_left _ hj)).elim
    ·exact h
    ·obtain ⟨y2,hy2,e,he,hb,hr2⟩:=bef_pred hcl _ j i (List.mem_append_left _ hj) h
     rw [hy] at hy2
     cases hy2
     exact (hno e he hb hr2).elim) hr
   have hcl':∀ j∈pre ++ post,∀ (k:Nat) y,ops[k]?=some y→(∃ e∈y.after,e.on=j∧Region.binds .any e=true)→k∈pre ++ post:=by
    intro j hj k y hk hex
    have hjr:j∈pre ++ i :: post:=by
     rw [List.mem_append] at hj ⊢
     rcases hj with h | h
     ·exact .inl h
     ·exact .inr (List.mem_cons_of_mem _ h)
    have hkr:=hcl j hjr k y hk hex
    rw [List.mem_append,List.mem_cons] at hkr
    rw [List.mem_append]
    rcases hkr with h | h | h
    ·exact .inl h
    ·subst h
     rw [hy] at hk
     cases hk
     obtain ⟨e,he,rfl,hb⟩:=hex
     exact (hno e he hb hjr).elim
    ·exact .inr h
   simp only [irun,hy,Option.bind_some,Option.bind_eq_some_iff] at hfront
   obtain ⟨σ1,h1,h2⟩:=hfront
   unfold stepG at h1
   rw [Option.bind_eq_some_iff] at h1
   obtain ⟨want,hw,h1⟩:=h1
   have hnd:(pre ++ i :: post).Nodup:=hp.imp fun h=>Nat.ne_of_lt h
   have hl':∀ j,j∈pre ++ post ↔ j < ops.size∧(listed.setIfInBounds i true).getD j true=false:=by
    intro j
    have hq:(listed.setIfInBounds i true).getD j true=if j=i then true else listed.getD j true:=by
     simp only [Array.getD_eq_getD_getElem?,Array.getElem?_setIfInBounds]
     by_cases h:j=i
     ·subst h;simp [hsz,hi1]
     ·have h':¬ i=j:=fun e=>h e.symm
      simp [h,h']
    rw [hq]
    have hni:i ∉ pre ++ post:=by
     rw [List.nodup_append] at hnd
     intro hm
     rw [List.mem_append] at hm
     rcases hm with hm | hm
     ·exact hnd.2.2 i hm i (List.mem_cons_self ..) rfl
     ·exact (List.nodup_cons.1 hnd.2.1).1 hm
    by_cases h:j=i
    ·subst h;simp [hni]
    ·rw [if_neg h,← hl j];simp [h]
   have hlen':(pre ++ post).length≤fuel:=by simp only [List.length_append,List.length_cons] at hlen ⊢; omega
   have hp':(pre ++ post).Pairwise (· < ·):=by
    rw [List.pairwise_append] at hp ⊢
    exact ⟨hp.1,(List.pairwise_cons.1 hp.2.1).2,fun a ha b hb=>hp.2.2 a ha b (List.mem_cons_of_mem _ hb)⟩
   have hsz':(listed.setIfInBounds i true).size=ops.size:=by rw [Array.size_setIfInBounds];exact hsz
   unfold wpOp
   rw [hy]
   simp only
   rw [wants_ok hs hw]
   have hmemo:ops[i]∈ops.toList:=by simp
   cases want with
   | true =>
    simp only [if_true] at h1 ⊢
    left
    refine hS _ hmemo σ σ1 h1 G w a _ _ hs fun G' a' w' hs' hF' hdf=>?_
    exact ih _ _ G' w' a' σ1 σ' hlen' hsz' hp' hl' hcl' hs' h2 fun G2 a2 w2 hs2 hF2 hdf2=>hQ G2 a2 w2 hs2 (hF'.trans hF2) (hdf2.trans hdf)
   | false =>
    simp only [Bool.false_eq_true,if_false,Option.some.injEq] at h1 ⊢
    subst h1
    have hs':=hs.put (hd _ hmemo) (v:=.skp) (r:=undef) fun _ _=>RA_skp
    refine ih _ _ G w _ _ σ' hlen' hsz' hp' hl' hcl' hs' h2 fun G2 a2 w2 hs2 hF2 hdf2=>hQ G2 a2 w2 hs2 hF2 (hdf2.trans ?_)
    cases ops[i].dst <;> rfl

end Go.Ev


namespace Go.Ev

def PC (P:Program) (f:Nat) (F:List AV→Option AV):Prop:=Enters P f∧∀ args r,F args=some r→∀ (G:Gh) (w:World) (vals:Array Value),
 (∀ b t,G.own b=some t→t=.foreign∧b < w.heap.size)→(∀ k,¬ G.live k)→(∀ b,G.age b=0)→ArgsOK w G args vals →
 Calls P f vals w fun e w'=>∃ v G',e=.returned v∧RA w' G' .ret r v∧w.heap.size≤w'.heap.size∧Kept w w' ∧
  (∀ b,b < w.heap.size→w'.heap[b]?=w.heap[b]?∧G'.own b=G.own b∧G'.use b=G.use b)∧∀ b t,G'.own b=some t→b < w'.heap.size


mutual
theorem RD_lend {w:World} {G G0:Gh} {o o':Ow} (hu:∀ b,G.use b≤G0.use b):∀ {d:D} {m:Md} {p p':List Nat} {v:Value},(∀ b,G0.own b=none)→RD w G o m p d v→RD w G0 o' .shr p' d v
 | .sc x,m,p,p',v,_,hr=>by rw [RD] at hr ⊢; exact hr
 | .sl n cs,m,p,p',v,hn0,hr=>by
  rw [RD] at hr ⊢
  rcases hr with ⟨h1,h2,a,cap,hv,_⟩|⟨h1,h2,b,off,cap,hv,hc,hn,hs⟩
  ·exact .inl ⟨h1,h2,a,cap,hv,by simp [Md.isOwn]⟩
  ·exact .inr ⟨h1,h2,b,off,cap,hv,hc,⟨hn0 b,Nat.le_trans (zgb hn) (hu b)⟩,RDs_lend hu hn0 hs⟩
theorem RDs_lend {w:World} {G G0:Gh} {o o':Ow} (hu:∀ b,G.use b≤G0.use b):∀ {cs:List D} {m:Md} {p p':List Nat} {b off i:Nat},(∀ b,G0.own b=none)→RDs w G o m p b off i cs→RDs w G0 o' .shr p' b off i cs
 | [],m,p,p',b,off,i,_,_=>by rw [RDs];trivial
 | d :: ds,m,p,p',b,off,i,hn0,hr=>by
  rw [RDs] at hr ⊢
  obtain ⟨⟨v,hv,hd⟩,hr⟩:=hr
  exact ⟨⟨v,hv,RD_lend hu hn0 hd⟩,RDs_lend hu hn0 hr⟩
end


mutual
theorem RD_shr {w:World} {G G0:Gh} {o o':Ow} (hn:∀ b,G.own b=none→G0.own b=none∧G.use b≤G0.use b):∀ {d:D} {p p':List Nat} {v:Value},RD w G o .shr p d v→RD w G0 o' .shr p' d v
 | .sc x,p,p',v,hr=>by rw [RD] at hr ⊢; exact hr
 | .sl n cs,p,p',v,hr=>by
  rw [RD] at hr ⊢
  rcases hr with hr | ⟨h1,h2,b,off,cap,hv,hc,hnd,hs⟩
  ·exact .inl hr
  ·exact .inr ⟨h1,h2,b,off,cap,hv,hc,⟨(hn b hnd.1).1,Nat.le_trans hnd.2 (hn b hnd.1).2⟩,RDs_shr hn hs⟩
theorem RDs_shr {w:World} {G G0:Gh} {o o':Ow} (hn:∀ b,G.own b=none→G0.own b=none∧G.use b≤G0.use b):∀ {cs:List D} {p p':List Nat} {b off i:Nat},RDs w G o .shr p b off i cs→RDs w G0 o' .shr p' b off i cs
 | [],p,p',b,off,i,_=>by rw [RDs];trivial
 | d :: ds,p,p',b,off,i,hr=>by
  rw [RDs] at hr ⊢
  obtain ⟨⟨v,hv,hd⟩,hr⟩:=hr
  exact ⟨⟨v,hv,RD_shr hn hd⟩,RDs_shr hn hr⟩
end


mutual
theorem RD_mv {w:World} {G G0:Gh} {o:Ow} (ht:∀ b q,G.own b=some (.at o q)→G0.own b=some (.at o q)∧G0.use b=G.use b):∀ {d:D} {m:Md} {p:List Nat} {v:Value},m≠.bor →
 (m=.own∨∀ b,G.own b=none→G0.own b=none∧G.use b≤G0.use b)→RD w G o m p d v→RD w G0 o m p d v
 | .sc x,m,p,v,_,_,hr=>by rw [RD] at hr ⊢; exact hr
 | .sl n cs,m,p,v,hm,hn,hr=>by
  rw [RD] at hr ⊢
  rcases hr with hr | ⟨h1,h2,b,off,cap,hv,hc,hnd,hs⟩
  ·exact .inl hr
  ·refine .inr ⟨h1,h2,b,off,cap,hv,hc,?_,RDs_mv ht (by cases m <;> simp_all [Md.elem]) (by
    rcases hn with rfl | hn
    ·exact .inl rfl
    ·exact .inr hn) hs⟩
   cases m with
   | own=>exact ⟨(ht b _ hnd.1).1,by rw [(ht b _ hnd.1).2];exact hnd.2.1,hnd.2.2⟩
   | top=>exact ⟨(ht b _ hnd.1).1,by rw [(ht b _ hnd.1).2];exact hnd.2.1,hnd.2.2⟩
   | shr =>
    rcases hn with h | hn
    ·cases h
    ·exact ⟨(hn b hnd.1).1,Nat.le_trans hnd.2 (hn b hnd.1).2⟩
   | bor=>exact absurd rfl hm
theorem RDs_mv {w:World} {G G0:Gh} {o:Ow} (ht:∀ b q,G.own b=some (.at o q)→G0.own b=some (.at o q)∧G0.use b=G.use b):∀ {cs:List D} {m:Md} {p:List Nat} {b off i:Nat},m≠.bor →
 (m=.own∨∀ b,G.own b=none→G0.own b=none∧G.use b≤G0.use b)→RDs w G o m p b off i cs→RDs w G0 o m p b off i cs
 | [],m,p,b,off,i,_,_,_=>by rw [RDs];trivial
 | d :: ds,m,p,b,off,i,hm,hn,hr=>by
  rw [RDs] at hr ⊢
  obtain ⟨⟨v,hv,hd⟩,hr⟩:=hr
  exact ⟨⟨v,hv,RD_mv ht hm hn hd⟩,RDs_mv ht hm hn hr⟩
end

theorem RA_lend {w:World} {G G0:Gh} {o o':Ow} {x y:AV} {v:Value} (hl:x.lend=some y) (h:RA w G o x v)
 (hc:(∀ b,G0.own b=none)∧(∀ b,G.use b≤G0.use b)∨x.shr?=true∧∀ b,G.own b=none→G0.own b=none∧G.use b≤G0.use b):RA w G0 o' y v:=by
 have cell:∀ (p p':List Nat) c c' v,C.lend c=some c'→((∀ b,G0.own b=none)∧(∀ b,G.use b≤G0.use b)∨c.shr?=true∧∀ b,G.own b=none→G0.own b=none∧G.use b≤G0.use b)→RC w G o p c v→RC w G0 o' p' c' v:=by
  intro p p' c c' v hcl hcc hr
  cases c with
  | s u=>simp only [C.lend,Option.some.injEq] at hcl;subst hcl;exact hr
  | l m n cs =>
   simp only [C.lend,Option.some.injEq] at hcl
   subst hcl
   rcases hcc with ⟨h1,h2⟩|⟨h1,h2⟩
   ·exact RD_lend h2 h1 hr
   ·cases m <;> simp only [C.shr?,Bool.false_eq_true] at h1
    exact RD_shr h2 hr
  | _=>simp [C.lend] at hcl
 cases x with
 | one c =>
  simp only [AV.lend,Option.map_eq_some_iff] at hl
  obtain ⟨c',hcl,rfl⟩:=hl
  exact cell _ _ _ _ _ hcl (hc.imp id fun h=>⟨h.1,h.2⟩) h
 | ag cs =>
  simp only [AV.lend,Option.map_eq_some_iff] at hl
  obtain ⟨cs',hcl,rfl⟩:=hl
  obtain ⟨vs,hv,hr⟩:=h
  refine ⟨vs,hv,RCs_map hr hcl fun j c c' v hmem hf hrc=>cell _ _ _ _ _ hf (hc.imp id fun h=>⟨?_,h.2⟩) hrc⟩
  have:=h.1
  simp only [AV.shr?] at this
  rw [List.all_eq_true] at this
  exact this c hmem
 | tu vs=>simp [AV.lend] at hl

theorem RA_res {w:World} {G G0:Gh} {o:Ow} {x:AV} {v:Value} (h:RA w G o x v) (ht:∀ b q,G.own b=some (.at o q)→G0.own b=some (.at o q)∧G0.use b=G.use b)
 (hc:x.own?=true∨x.data?=true∧∀ b,G.own b=none→G0.own b=none∧G.use b≤G0.use b):RA w G0 o x v:=by
 have cell:∀ (p:List Nat) c v,(c.own?=true∨c.data?=true∧∀ b,G.own b=none→G0.own b=none∧G.use b≤G0.use b)→RC w G o p c v→RC w G0 o p c v:=by
  intro p c v hcc hr
  cases c with
  | s u=>exact hr
  | l m n cs =>
   refine RD_mv ht ?_ ?_ hr
   ·rintro rfl;simp [C.own?,C.data?] at hcc
   ·rcases hcc with h | h
    ·left;cases m <;> simp_all [C.own?]
    ·exact .inr h.2
  | _=>simp [C.own?,C.data?] at hcc
 have cells:∀ (p:List Nat) cs vs,(cs.all C.own?=true∨cs.all C.data?=true∧∀ b,G.own b=none→G0.own b=none∧G.use b≤G0.use b)→RCs w G o p 0 cs vs→RCs w G0 o p 0 cs vs:=by
  intro p cs vs hcc hr
  refine ⟨hr.1,fun j c hj=>?_⟩
  obtain ⟨x,hx,hrc⟩:=hr.2 j c hj
  refine ⟨x,hx,cell _ _ _ (hcc.imp (fun h=>?_) fun h=>⟨?_,h.2⟩) hrc⟩
  ·rw [List.all_eq_true] at h;exact h c (List.mem_of_getElem? hj)
  ·have:=h.1;rw [List.all_eq_true] at this;exact this c (List.mem_of_getElem? hj)
 cases x with
 | one c=>exact cell _ _ _ hc h
 | ag cs =>
  obtain ⟨vs,hv,hr⟩:=h
  exact ⟨vs,hv,cells _ _ _ hc hr⟩
 | tu l =>
  obtain ⟨vs,hv,hz,hr⟩:=h
  refine ⟨vs,hv,hz,fun i b cs hi=>?_⟩
  obtain ⟨x,hx,hrc⟩:=hr i b cs hi
  have hcc:cs.all C.own?=true∨cs.all C.data?=true∧∀ b,G.own b=none→G0.own b=none∧G.use b≤G0.use b:=by
   refine hc.imp (fun h=>?_) fun h=>⟨?_,h.2⟩
   ·simp only [AV.own?] at h;rw [List.all_eq_true] at h;exact h _ (List.mem_of_getElem? hi)
   ·have:=h.1;simp only [AV.data?] at this;rw [List.all_eq_true] at this;exact this _ (List.mem_of_getElem? hi)
  refine ⟨x,hx,?_⟩
  cases b with
  | true =>
   obtain ⟨xs,hxs,hrc⟩:=hrc
   exact ⟨xs,hxs,cells _ _ _ hcc hrc⟩
  | false=>exact cells _ _ _ hcc hrc

open Classical in
theorem PC.call {P:Program} {f:Nat} {F:List AV→Option AV} (h:PC P f F) {d:Nat} {args la:List AV} {mem:Mem} {r:AV} (hl:args.mapM AV.lend=some la) (hF:F la=some r)
 (hr:(r.own? || (r.data? && args.all AV.shr?))=true):CallOK P d f args mem mem r:=by
 refine ⟨h.1,fun G w vals hA hM=>?_⟩
 obtain ⟨hml,hmg⟩:=zkk hl
 have key:∀ G0:Gh,(∀ b t,G0.own b=some t→t=.foreign∧b < w.heap.size)→(∀ k,¬ G0.live k)→(∀ b,G0.age b=0)→(∀ b,G0.use b=G.use b) →
  ((∀ b,G0.own b=none)∧r.own?=true∨args.all AV.shr?=true∧r.data?=true∧(∀ b,G.own b=none ↔ G0.own b=none)) →
  Calls P f vals w fun e w'=>∃ v G',e=.returned v∧RA w' G' .ret r v∧MemOK d G' mem w'∧Frm (d+1) G w G' w':=by
  intro G0 hflat hlive hage huse hcase
  have hA0:ArgsOK w G0 la vals:=by
   refine ⟨by rw [hA.1,hml],fun i y hi=>?_⟩
   obtain ⟨x,hx,hxy⟩:=hmg i y hi
   obtain ⟨v,hv,hra⟩:=hA.2 i x hx
   refine ⟨v,hv,fun d t=>RA_lend hxy (hra d t) ?_⟩
   rcases hcase with ⟨h1,_⟩|⟨h1,_,h2⟩
   ·exact .inl ⟨h1,fun b=>by rw [huse];exact Nat.le_refl _⟩
   ·refine .inr ⟨?_,fun b hb=>⟨(h2 b).1 hb,by rw [huse];exact Nat.le_refl _⟩⟩
    rw [List.all_eq_true] at h1
    exact h1 x (List.mem_of_getElem? hx)
  refine (h.2 la r hF G0 w vals hflat hlive hage hA0).mono fun e w' he=>?_
  obtain ⟨v,G0',rfl,hRA,hsz,hkept,hold,hwf⟩:=he
  let own':Nat→Option Tag:=fun b=>if b < w.heap.size then G.own b else match G0'.own b with
   | some (.at .ret p)=>some (.at .ret p)
   | none=>none
   | _=>some .foreign
  let G':Gh:={ own:=own',use:=G0'.use,β:=G.β,live:=G.live,age:=G.age,cap:=G.cap }
  have ho:∀ b,b < w.heap.size→G'.own b=G.own b:=fun b hb=>by show own' b=_;simp only [own',hb,if_true]
  have hu:∀ b,b < w.heap.size→G'.use b=G.use b:=fun b hb=>by show G0'.use b=_;rw [(hold b hb).2.2,huse]
  have hnew:∀ b t,G'.own b=some t→¬ b < w.heap.size→b < w'.heap.size∧(∀ k,t≠.box k)∧(∀ k p,t≠.at (.cell k) p)∧t.dep d≤d:=by
   intro b t hb hlt
   have hb:own' b=some t:=hb
   simp only [own',hlt,if_false] at hb
   cases hg:G0'.own b with
   | none=>rw [hg] at hb;cases hb
   | some t0 =>
    refine ⟨hwf b t0 hg,?_⟩
    rw [hg] at hb
    split at hb
    ·cases hb;exact ⟨fun k=>by simp,fun k p=>by simp,Nat.le_refl d⟩
    ·cases hb
    ·cases hb;exact ⟨fun k=>by simp,fun k p=>by simp,Nat.zero_le d⟩
  have hF':Frm (d+1) G w G' w':={
   size:=hsz
   kept:=hkept
   same:=fun b hb _=>⟨(hold b hb).1,ho b hb,hu b hb⟩
   age:=fun _ _ _=>rfl
   box:=fun b hb _ hk=>by rw [ho b hb];exact hk
   use:=fun b hb _=>by rw [hu b hb];exact Nat.le_refl _
   cell:=fun b off hb _ _ _=>by unfold World.cell?;simp only [(hold b hb).1]
   live:=fun k hk _=>⟨hk,rfl,rfl⟩
   back:=fun _ _ h=>.inl h
   up:=fun _ h=>h }
  refine ⟨v,G',rfl,RA_res hRA (fun b q hq=>?_) ?_,?_,hF'⟩
  ·have hb:¬ b < w.heap.size:=fun hb=>by
    rw [(hold b hb).2.1] at hq
    have:=(hflat b _ hq).1
    cases this
   exact ⟨by show own' b=_;simp only [own',hb,if_false,hq],rfl⟩
  ·rcases hcase with ⟨_,h2⟩|⟨_,h2,h3⟩
   ·exact .inl h2
   ·refine .inr ⟨h2,fun b hb=>⟨?_,Nat.le_refl _⟩⟩
    by_cases hlt:b < w.heap.size
    ·rw [ho b hlt,h3 b,← (hold b hlt).2.1];exact hb
    ·show own' b=none
     simp only [own',hlt,if_false,hb]
  ·have hH:∀ o p,Hands w G w' G' o p o p fun _=>false:=fun o p=>{
    tag:=fun b q hb ht=>⟨by rw [ho b hb];exact ht,hu b hb,(hold b hb).1⟩
    nil:=fun b hb hn=>by rw [ho b hb];exact hn
    nilh:=fun b hb _=>(hold b hb).1
    box:=fun b hb hk=>by rw [ho b hb];exact hk
    use:=fun b hb _=>by rw [hu b hb];exact Nat.le_refl _
    cell:=fun b off hb _ _=>by unfold World.cell?;simp only [(hold b hb).1]
    live:=fun k hk _=>⟨hk,rfl,rfl⟩ }
   exact {
    cells:=fun k cs hk hn2=>by
     obtain ⟨arr,e,h1,h2,h2c,h3⟩:=hM.cells k cs hk hn2
     have hb:=hM.wf _ _ h2
     exact ⟨arr,e,by rw [← h1];exact (hold _ hb).1,by rw [← h2];exact ho _ hb,h2c,(hH _ _).rcs0 h3⟩
    live:=hM.live
    dep:=hM.dep
    wf:=fun b t hb=>by
     by_cases hlt:b < w.heap.size
     ·omega
     ·exact (hnew b t hb hlt).1
    wfb:=fun b k hb=>by
     by_cases hlt:b < w.heap.size
     ·rw [ho b hlt] at hb;exact hM.wfb b k hb
     ·exact absurd rfl ((hnew b _ hb hlt).2.1 k)
    wfc:=fun b k p hb=>by
     by_cases hlt:b < w.heap.size
     ·rw [ho b hlt] at hb;exact hM.wfc b k p hb
     ·exact absurd rfl ((hnew b _ hb hlt).2.2.1 k p)
    age:=hM.age
    fut:=fun b hb=>hM.fut b (by omega)
    aged:=fun b t hb=>by
     by_cases hlt:b < w.heap.size
     ·rw [ho b hlt] at hb;exact hM.aged b t hb
     ·have:=(hnew b t hb hlt).2.2.2
      have h2:G'.age b=d:=hM.fut b (by omega)
      omega }
 by_cases hro:r.own?=true
 ·exact key { own:=fun _=>none,use:=G.use,β:=G.β,live:=fun _=>False,age:=fun _=>0,cap:=G.cap } (fun b t hb=>by cases hb) (fun _ h=>h) (fun _=>rfl) (fun _=>rfl) (.inl ⟨fun _=>rfl,hro⟩)
 ·simp only [Bool.or_eq_true,Bool.and_eq_true] at hr
  obtain ⟨h1,h2⟩:=hr.resolve_left hro
  refine key { own:=fun b=>(G.own b).map fun _=>.foreign,use:=G.use,β:=G.β,live:=fun _=>False,age:=fun _=>0,cap:=G.cap } (fun b t hb=>?_) (fun _ h=>h) (fun _=>rfl) (fun _=>rfl) (.inr ⟨h2,h1,fun b=>by simp⟩)
  simp only [Option.map_eq_some_iff] at hb
  obtain ⟨t0,ht0,rfl⟩:=hb
  exact ⟨rfl,hM.wf b t0 ht0⟩

end Go.Ev

