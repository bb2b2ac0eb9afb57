import Derived.Test.YtfcfpdcjepobpaaGreatEvA0
import Derived.Laws.Slices
import Derived.Laws.CopyRow
import Derived.Laws.Tables
import Derived.Laws.Cells
import Derived.Laws.Rows
import Derived.Laws.AppendOwn
import Derived.Laws.MakeOwn
set_option linter.unusedSimpArgs false
set_option linter.unusedVariables false
set_option linter.unnecessarySimpa false
noncomputable section
namespace Go.Ev

theorem zjn {P:Program} {t:Nat} {i:TI} (h:ti P t=some i):∃ info dd z,P.info? t=some info∧P.underlying t=some dd∧info.zero=some z∧i.size=info.size∧i.bytes=info.bytes ∧
 (i.agg=match dd with | .struct _ | .array _ _=>true | _=>false)∧(i.elem=match dd with | .slice e=>some e | _=>none) ∧
 (i.flds=match dd with | .struct fs=>fs.toList.map (fun f=>(f.offset,f.type)) | _=>[])∧i.zero=z.cells.toList:=by
 unfold ti at h
 split at h
 ·rename_i info dd h1 h2
  split at h
  ·rename_i z hz
   cases h
   refine ⟨info,dd,z,h1,h2,hz,rfl,rfl,?_,?_,?_,rfl⟩
   ·cases dd <;> rfl
   ·cases dd <;> rfl
   ·cases dd <;> rfl
  ·cases h
 ·cases h

theorem zhp {P:Program} {t e:Nat} {i:TI} (h:ti P t=some i) (he:i.elem=some e):P.underlying t=some (.slice e):=by
 obtain ⟨info,dd,z,_,h2,_,_,_,_,h5,_,_⟩:=zjn h
 rw [h5] at he
 cases dd <;> simp at he
 subst he
 exact h2

theorem zih {P:Program} {t:Nat} {i:TI} (h:ti P t=some i) (w:World):(sizeOf t).run P w=.ok i.size w:=by
 obtain ⟨info,dd,z,h1,_,_,h4,_⟩:=zjn h
 simp [sizeOf,typeInfo,h1,h4]

theorem ti_fld {P:Program} {t k:Nat} {i:TI} {fd:Nat × Nat} (h:ti P t=some i) (hf:i.flds[k]?=some fd):∃ fs f,P.underlying t=some (.struct fs)∧fs[k]?=some f∧f.offset=fd.1∧f.type=fd.2:=by
 obtain ⟨info,dd,z,_,h2,_,_,_,_,_,h6,_⟩:=zjn h
 rw [h6] at hf
 cases dd with
 | struct fs =>
  simp at hf
  obtain ⟨f,hf1,hf2⟩:=hf
  exact ⟨fs,f,h2,hf1,by rw [← hf2],by rw [← hf2]⟩
 | _=>simp at hf

theorem run_isAgg {P:Program} {t:Nat} {i:TI} (h:ti P t=some i) (w:World):(isAgg t).run P w=.ok i.agg w:=by
 obtain ⟨info,dd,z,_,h2,_,_,_,h4,_⟩:=zjn h
 rw [h4]
 cases dd <;> simp [isAgg,run_underlying h2]

section
variable {g:Cfg} {d N:Nat} {G:Gh} {σ:St} {w:World} {a:Act} {dst:Option Nat} {ty:TypeId} {pos:String} {after:Array Edge} {guard:Option (Nat × Bool)}

theorem RC_ep_move {o o':Ow} {p p':List Nat} {m:Md} {cs:List D} {ps:Nat} {v:Value} (h:RC w G o p (.ep m cs ps) v):RC w G o' p' (.ep m cs ps) v:=by
 have:=zit (o':=o') (p':=p') h
 exact this

theorem zne (h:Sim d N G σ a.tmps w) (hd:dst.all (· < N)=true) (x:Operand) {c:C} (hx:opnd σ.env x=.one c)
 (hc:(∃ k off,c=.ptr k off)∨(∃ m cs ps,c=.ep m cs ps)):OpOK g.P d N G w a { dst,op:=.nilCheck x,type:=ty,pos,after,guard } σ (.one c):=by
 have hv:=h.opnd x
 rw [hx] at hv
 rcases hc with ⟨k,off,rfl⟩|⟨m,cs,ps,rfl⟩
 ·obtain ⟨hl,hv'⟩:=hv
  refine OpOK.mk (r:=a.eval x) hd ?_ (Frm.refl _ _ _) h fun _ _=>⟨hl,hv'⟩
  simp only [execOp,hv']
  rfl
 ·have hv2:=hv
  obtain ⟨_,_,b,off,hv',_⟩:=hv
  refine OpOK.mk (r:=a.eval x) hd ?_ (Frm.refl _ _ _) h fun _ _=>RC_ep_move hv2
  simp only [execOp,hv']
  rfl

theorem zmy {P:Program} {s k:Nat} {i fi:TI} {fd:Nat × Nat} (h:ti P s=some i) (hf:i.flds[k]?=some fd) (hfi:ti P fd.2=some fi) (hz:fi.size≠0) (b off:Nat) :
 (Instr.fieldAt s (.pointer (some ⟨b,off,none⟩)) k).run P w=.ok (.pointer (some ⟨b,off+fd.1,none⟩)) w:=by
 obtain ⟨fs,f,hu,hfs,h1,h2⟩:=ti_fld h hf
 have hsz:=zih hfi w
 rw [← h2] at hsz
 simp [Instr.fieldAt,run_underlying hu,hfs,Instr.sureAddr,fieldPlace,hsz,hz,Addr.add_lit,h1]

theorem ok_fieldAddr (h:Sim d N G σ a.tmps w) (hd:dst.all (· < N)=true) (s:TypeId) (x:Operand) (k:Nat) {i fi:TI} {fd:Nat × Nat} (hi:ti g.P s=some i) (hf:i.flds[k]?=some fd)
 (hfi:ti g.P fd.2=some fi) (hz:fi.size≠0) :
 (∀ key off,opnd σ.env x=.one (.ptr key off)→OpOK g.P d N G w a { dst,op:=.fieldAddr s x k,type:=ty,pos,after,guard } σ (.one (.ptr key (off+fd.1)))) ∧
 (∀ m cs ps,opnd σ.env x=.one (.ep m cs ps)→OpOK g.P d N G w a { dst,op:=.fieldAddr s x k,type:=ty,pos,after,guard } σ (.one (.ep m cs (ps+fd.1)))):=by
 have hv:=h.opnd x
 constructor
 ·intro key off hx
  rw [hx] at hv
  obtain ⟨hl,hv'⟩:=hv
  refine OpOK.mk (r:=.pointer (some ⟨G.β key,off+fd.1,none⟩)) hd ?_ (Frm.refl _ _ _) h fun _ _=>⟨hl,rfl⟩
  simp only [execOp,hv']
  simp [zmy hi hf hfi hz]
 ·intro m cs ps hx
  rw [hx] at hv
  obtain ⟨hm,h1,b,off,hv',hk,hu,hs⟩:=hv
  refine OpOK.mk (r:=.pointer (some ⟨b,off+ps+fd.1,none⟩)) hd ?_ (Frm.refl _ _ _) h fun _ _=>⟨hm,h1,b,off,by rw [Nat.add_assoc],hk,hu,zlq hm hs⟩
  simp only [execOp,hv']
  simp [zmy hi hf hfi hz]

theorem Md.copy_own (m:Md):m.copy.isOwn=false:=by cases m <;> rfl
theorem Md.copy_elem_own (m:Md):m.copy.elem.isOwn=false:=by cases m <;> rfl
theorem Md.copy_elem (m:Md):m.copy.elem=m.copy:=by cases m <;> rfl

theorem RDs_copy {o o':Ow} {p p':List Nat} {m:Md} {b off i:Nat} {cs:List D} (h:RDs w G o m.elem p b off i cs):RDs w G o' m.copy.elem p' b off i cs:=by
 cases m with
 | own=>exact zqx h
 | top=>exact zqx h
 | shr=>exact zlq rfl h
 | bor=>exact zlq rfl h

theorem ok_indexAddr (h:Sim d N G σ a.tmps w) (hd:dst.all (· < N)=true) (t:TypeId) (x ix:Operand) {i ei:TI} {e:Nat} (hi:ti g.P t=some i) (he:i.elem=some e)
 (hei:ti g.P e=some ei) {n:Int} (hn:toInt (opnd σ.env ix)=some n) {m:Md} {len:Nat} {cs:List D} (hx:opnd σ.env x=.one (.l m len cs)) (hb:0≤n∧n < len) :
 OpOK g.P d N G w a { dst,op:=.indexAddr t x ix,type:=ty,pos,after,guard } σ (.one (.ep m.copy.elem cs (n.toNat * ei.size))):=by
 have hv:=h.opnd x
 rw [hx] at hv
 have hv1:RD w G _ m [] (.sl len cs) (a.eval x):=hv
 rw [RD] at hv1
 rcases hv1 with ⟨_,h0,_⟩|⟨h1,h2,b,off,cap,hv',hc,hno,hs⟩
 ·subst h0;omega
 ·have hix:=zgz hn (h.opnd ix)
  refine OpOK.mk (r:=.pointer (some ⟨b,off+n.toNat * ei.size,none⟩)) hd ?_ (Frm.refl _ _ _) h fun _ _ =>
   ⟨Md.copy_elem_own m,h1,b,off,rfl,zfo hno,zgb hno,RDs_copy hs⟩
  simp only [execOp,hv',hix]
  have hsz:=zih hei w
  simp [Instr.indexAt,asIntOf,run_underlying (zhp hi he),hsz,hb.1,hb.2,Addr.add_lit]

theorem zpz (h:Sim d N G σ a.tmps w) (hd:dst.all (· < N)=true) (t:TypeId) (x ix:Operand) {i ei:TI} {e:Nat} (hi:ti g.P t=some i) (he:i.elem=some e)
 (hei:ti g.P e=some ei) {n:Int} (hn:toInt (opnd σ.env ix)=some n) {k:Key} {len sz:Nat} (hx:opnd σ.env x=.one (.bs k len sz)) (hb:0≤n∧n < len∧sz=ei.size) :
 OpOK g.P d N G w a { dst,op:=.indexAddr t x ix,type:=ty,pos,after,guard } σ (.one (.ptr k (n.toNat * ei.size))):=by
 have hv:=h.opnd x
 rw [hx] at hv
 obtain ⟨hl,hz,ba,cap,hv',_,hc⟩:=hv
 obtain ⟨rfl,_,_⟩:=hc (by omega)
 have hix:=zgz hn (h.opnd ix)
 refine OpOK.mk (r:=.pointer (some ⟨G.β k,n.toNat * ei.size,none⟩)) hd ?_ (Frm.refl _ _ _) h fun _ _=>⟨hl,rfl⟩
 simp only [execOp,hv',hix]
 have hsz:=zih hei w
 simp [Instr.indexAt,asIntOf,run_underlying (zhp hi he),hsz,hb.1,hb.2.1,Addr.add_lit]

theorem ok_lenB (h:Sim d N G σ a.tmps w) (hd:dst.all (· < N)=true) (x:Operand) (args:Array Operand) (argTypes:Array TypeId) (ha:args.toList=[x]) {t:Nat} (ht:argTypes[0]?=some t) {i:TI} {e:Nat}
 (hi:ti g.P t=some i) (he:i.elem=some e) {k:Key} {n sz:Nat} (hx:opnd σ.env x=.one (.bs k n sz)) :
 OpOK g.P d N G w a { dst,op:=.call { callee:=.builtin .len,args,argTypes },type:=ty,pos,after,guard } σ (.one (.s (.int .i64 n))):=by
 have hv:=h.opnd x
 rw [hx] at hv
 obtain ⟨_,_,ba,cap,hv',_⟩:=hv
 have hargs:args = #[x]:=by apply Array.ext';simpa using ha
 subst hargs
 refine OpOK.mk (r:=.int .i64 n) hd ?_ (Frm.refl _ _ _) h fun _ _=>⟨rfl,rfl⟩
 simp [execOp,resolve,invoke,builtin,hv',Builtin.len_,ht,run_underlying (zhp hi he),goInt]

theorem take_seg {α:Type} {l:List α} {n off size:Nat} (h:off+size≤n):((l.take n).drop off).take size=(l.drop off).take size:=by
 apply List.ext_getElem?
 intro j
 rw [List.getElem?_take,List.getElem?_take]
 split
 ·rw [List.getElem?_drop,List.getElem?_drop,List.getElem?_take,if_pos (by omega)]
 ·rfl

theorem ok_len (h:Sim d N G σ a.tmps w) (hd:dst.all (· < N)=true) (x:Operand) (args:Array Operand) (argTypes:Array TypeId) (ha:args.toList=[x]) {t:Nat} (ht:argTypes[0]?=some t) {i:TI} {e:Nat}
 (hi:ti g.P t=some i) (he:i.elem=some e) {m:Md} {n:Nat} {cs:List D} (hx:opnd σ.env x=.one (.l m n cs)) :
 OpOK g.P d N G w a { dst,op:=.call { callee:=.builtin .len,args,argTypes },type:=ty,pos,after,guard } σ (.one (.s (.int .i64 n))):=by
 have hv:=h.opnd x
 rw [hx] at hv
 have hv1:RD w G _ m [] (.sl n cs) (a.eval x):=hv
 rw [RD] at hv1
 have hargs:args = #[x]:=by apply Array.ext';simpa using ha
 subst hargs
 have hs:∃ ad cap,a.eval x=.slice ad n cap:=by
  rcases hv1 with ⟨_,h0,ad,cap,hv',_⟩|⟨_,_,b,off,cap,hv',_⟩
  ·exact ⟨ad,cap,by rw [hv',h0]⟩
  ·exact ⟨_,cap,hv'⟩
 obtain ⟨ad,cap,hv'⟩:=hs
 refine OpOK.mk (r:=.int .i64 n) hd ?_ (Frm.refl _ _ _) h fun _ _=>⟨rfl,rfl⟩
 simp [execOp,resolve,invoke,builtin,hv',Builtin.len_,ht,run_underlying (zhp hi he),goInt]

theorem mapM_ptrs {o:Act} (h:Sim d N G σ o.tmps w):∀ (xs:List Operand) (cs:List (Key × Nat)),
 (xs.mapM fun x=>match opnd σ.env x with | .one (.ptr k off)=>some (k,off) | _=>none)=some cs →
 (∀ c∈cs,G.live c.1)∧xs.map o.eval=cs.map fun c=>.pointer (some ⟨G.β c.1,c.2,none⟩)
 | [],cs,hc=>by
  simp at hc
  subst hc
  simp
 | x :: xs,cs,hc=>by
  rw [List.mapM_cons] at hc
  have hx:=h.opnd x
  split at hc
  ·rename_i k off hx'
   rw [hx'] at hx
   simp only [bind,pure,Option.bind] at hc
   split at hc
   ·cases hc
   ·rename_i cs' hcs'
    cases hc
    obtain ⟨a1,a2⟩:=mapM_ptrs h xs cs' hcs'
    refine ⟨fun c hm=>?_,?_⟩
    ·rcases List.mem_cons.1 hm with rfl | hm
     ·exact hx.1
     ·exact a1 c hm
    ·simp only [List.map_cons,a2,hx.2]
  ·simp at hc

theorem ok_makeFunc (h:Sim d N G σ a.tmps w) (hd:dst.all (· < N)=true) (k:FuncId) (first caps:Array Operand) (hf:first.size=0) {cs:List (Key × Nat)}
 (hc:(caps.toList.mapM fun x=>match opnd σ.env x with | .one (.ptr k off)=>some (k,off) | _=>none)=some cs) :
 OpOK g.P d N G w a { dst,op:=.makeFunc (.func k) first caps,type:=ty,pos,after,guard } σ (.one (.fn k cs)):=by
 obtain ⟨h1,h2⟩:=mapM_ptrs h _ _ hc
 have hf':first = #[]:=Array.eq_empty_of_size_eq_zero hf
 subst hf'
 refine OpOK.mk (r:=.func (.func k) #[] (caps.map a.eval)) hd ?_ (Frm.refl _ _ _) h fun _ _=>⟨h1,_,rfl,by rw [Array.toList_map];exact h2⟩
 simp [execOp,Instr.makeFunc]

theorem zhx {α:Type} {cs sg:List α} {off size:Nat} (h:seg cs off size=some sg):off+size≤cs.length∧sg.length=size∧∀ j,j < size→sg[j]?=cs[off+j]?:=by
 unfold seg at h
 split at h
 ·rename_i hle
  cases h
  refine ⟨hle,by rw [List.length_take,List.length_drop];omega,fun j hj=>?_⟩
  rw [List.getElem?_take,if_pos hj,List.getElem?_drop]
 ·cases h

theorem RCs_seg {o:Ow} {p:List Nat} {i off size:Nat} {cs sg:List C} {vs:List Value} (h:RCs w G o p i cs vs) (hs:seg cs off size=some sg) :
 RCs w G o p (i+off) sg ((vs.drop off).take size):=by
 obtain ⟨hle,hl,hg⟩:=zhx hs
 refine ⟨by rw [hl,List.length_take,List.length_drop,h.1];omega,fun j c hj=>?_⟩
 have hjs:j < size:=by
  rcases Nat.lt_or_ge j size with hlt | hge
  ·exact hlt
  ·rw [List.getElem?_eq_none (by omega)] at hj;cases hj
 rw [hg j hjs] at hj
 obtain ⟨x,hx,hr⟩:=h.2 (off+j) c hj
 refine ⟨x,by rw [List.getElem?_take,if_pos hjs,List.getElem?_drop];exact hx,?_⟩
 rw [show i+off+j=i+(off+j) by omega]
 exact hr


theorem zfi {P:Program} {t:Nat} {i:TI} (h:ti P t=some i) (b off:Nat) (vs:List Value) (hl:vs.length=i.size) (hc:∀ j v,vs[j]?=some v→w.cell? ⟨b,off+j,none⟩=some v)
 (hn:i.agg=false→i.size=1):(Instr.loadAt t (.pointer (some ⟨b,off,none⟩))).run P w=.ok (if i.agg then .agg vs.toArray else vs[0]?.getD undef) w:=by
 have hcs:∀ j v,vs[j]?=some v→w.cell? ((⟨b,off,none⟩:Addr).add j)=some v:=fun j v hv=>by rw [Addr.add_lit];exact hc j v hv
 simp only [Instr.loadAt,Instr.sureAddr,loadVar,Sem.run_bind,Sem.run_pure,Result.andThen_ok,run_isAgg h,Sem.run_ite]
 cases ha:i.agg with
 | true =>
  have hr:=run_loadCells_list (P:=P) w ⟨b,off,none⟩ vs hcs
  rw [hl] at hr
  simp [zih h,hr]
 | false =>
  have h1:=hn ha
  rw [h1] at hl
  match vs,hl with
  | [v],_ =>
   have:=hc 0 v rfl
   simp at this
   simp [this]

theorem znj {o:Ow} {agg:Bool} {cs:List C} {v:AV} (h:mkAV agg cs=some v) {vs:List Value} (hr:agg=true→RCs w G o [] 0 cs vs) (hr1:agg=false→∀ c,cs=[c]→∃ x,vs=[x]∧RC w G o [] c x) :
 RA w G o v (if agg then .agg vs.toArray else vs[0]?.getD undef)∧(agg=false→cs.length=1):=by
 unfold mkAV at h
 cases agg with
 | true =>
  simp only [if_true] at h
  cases h
  exact ⟨⟨vs.toArray,rfl,by simpa using hr rfl⟩,fun h=>by cases h⟩
 | false =>
  simp only [Bool.false_eq_true,if_false] at h
  split at h
  ·rename_i c
   cases h
   obtain ⟨x,rfl,hx⟩:=hr1 rfl c rfl
   exact ⟨hx,fun _=>rfl⟩
  ·cases h

theorem zjh {b:Nat} {arr:Array Value} {e:TypeId} {fr:Nat × Nat} (h:w.heap[b]?=some (.cells arr e fr)) (off:Nat):w.cell? ⟨b,off,none⟩=arr[off]?:=by
 simp [World.cell?,h]

theorem seg_cell {b:Nat} {arr:Array Value} {e:TypeId} {fr:Nat × Nat} (h:w.heap[b]?=some (.cells arr e fr)) (off size:Nat) (j:Nat) (v:Value) (hv:((arr.toList.drop off).take size)[j]?=some v) :
 w.cell? ⟨b,off+j,none⟩=some v:=by
 rw [zjh h]
 rw [List.getElem?_take] at hv
 split at hv
 ·rw [List.getElem?_drop,Array.getElem?_toList] at hv;exact hv
 ·cases hv

theorem zki {agg:Bool} {cs:List C} {v:AV} (h:mkAV agg cs=some v):agg=false→cs.length=1:=by
 intro ha
 subst ha
 unfold mkAV at h
 simp only [Bool.false_eq_true,if_false] at h
 split at h
 ·rfl
 ·cases h

theorem zid {o:Ow} {p:List Nat} {i:Nat} {c:C} {vs:List Value} (h:RCs w G o p i [c] vs):∃ x,vs=[x]∧RC w G o (p ++ [i]) c x:=by
 obtain ⟨hl,hg⟩:=h
 match vs,hl with
 | [x],_ =>
  obtain ⟨y,hy,hr⟩:=hg 0 c rfl
  cases hy
  exact ⟨x,rfl,by simpa using hr⟩

theorem Sim.vals (h:Sim d N G σ a.tmps w) {k:Key} {off size:Nat} {cs sg:List C} (hm:σ.mem k=some cs) (hs:seg cs off size=some sg) :
 ∃ vs:List Value,vs.length=size∧(∀ j u,vs[j]?=some u→w.cell? ⟨G.β k,off+j,none⟩=some u)∧RCs w G (.cell k) [] (0+off) sg vs:=by
 obtain ⟨hle,hsl,_⟩:=zhx hs
 by_cases hne:cs=[]
 ·subst hne
  have h0:size=0:=by simp at hle;omega
  subst h0
  obtain rfl:=List.length_eq_zero_iff.1 hsl
  exact ⟨[],rfl,fun j u hu=>by simp at hu,rfl,fun j c hj=>by simp at hj⟩
 ·obtain ⟨arr,e,ha,hb,hcap,hc⟩:=h.mem k cs hm hne
  have hseg:=RCs_seg hc hs
  rw [take_seg hle] at hseg
  exact ⟨_,by rw [hseg.1,hsl],fun j u hu=>seg_cell ha off size j u hu,hseg⟩

theorem ok_load (h:Sim d N G σ a.tmps w) (hd:dst.all (· < N)=true) (t:TypeId) (x:Operand) {i:TI} (hi:ti g.P t=some i) {k:Key} {off:Nat} (hx:opnd σ.env x=.one (.ptr k off))
 {cs sg:List C} (hm:σ.mem k=some cs) (hs:seg cs off i.size=some sg) {v:AV} (hv:mkAV i.agg (sg.map C.copy)=some v) :
 OpOK g.P d N G w a { dst,op:=.load t x,type:=ty,pos,after,guard } σ v:=by
 have hxv:=h.opnd x
 rw [hx] at hxv
 obtain ⟨hl,hxv⟩:=hxv
 obtain ⟨hle,hsl,_⟩:=zhx hs
 obtain ⟨us,hlen,hcl,hseg⟩:=h.vals hm hs
 have hrun:=zfi (w:=w) hi (G.β k) off _ hlen hcl (fun hag=>by rw [← hsl];have:=zki hv hag;rwa [List.length_map] at this)
 refine OpOK.mk (r:=_) hd (by simp only [execOp,hxv];simp only [Sem.run_bind,hrun,Result.andThen_ok];rfl) (Frm.refl _ _ _) h fun t' _=>?_
 refine (znj hv (vs:=us) (fun _=>zji hseg) (fun _ c hcs=>?_)).1
 have:=zji (o':=.slot d t') (p':=[]) (i':=0) hseg
 rw [hcs] at this
 obtain ⟨y,hy,hr⟩:=zid this
 refine ⟨y,hy,?_⟩
 obtain ⟨c0,hc0⟩:∃ c0,sg=[c0]:=by
  have hl1:sg.length=1:=by have:=congrArg List.length hcs;simpa using this
  exact List.length_eq_one_iff.1 hl1
 subst hc0
 simp only [List.map_cons,List.map_nil,List.cons.injEq,and_true] at hcs
 subst hcs
 obtain ⟨y',hy',hr'⟩:=zid hseg
 rw [hy] at hy'
 cases hy'
 exact zit hr'

end
end Go.Ev


namespace Go.Ev
section
variable {g:Cfg} {d N:Nat} {G:Gh} {σ:St} {w:World} {a:Act} {dst:Option Nat} {ty:TypeId} {pos:String} {after:Array Edge} {guard:Option (Nat × Bool)}

theorem RC_ofD {o:Ow} {p:List Nat} {m:Md} {x:D} {v:Value} (h:RD w G o m p x v):RC w G o p (C.ofD m x) v:=by
 cases x with
 | sc u=>rw [RD] at h;exact h
 | sl n cs=>exact h

theorem RDs_vals {o:Ow} {m:Md} {p:List Nat} {b off:Nat}:∀ {cs:List D} {i:Nat},RDs w G o m p b off i cs →
 ∃ vs:List Value,vs.length=cs.length∧(∀ j v,vs[j]?=some v→w.cell? ⟨b,off+(i+j),none⟩=some v)∧RCs w G o p i (cs.map (C.ofD m)) vs
 | [],i,_=>⟨[],rfl,fun j v hv=>by simp at hv,rfl,fun j c hc=>by simp at hc⟩
 | x :: cs,i,h=>by
  rw [RDs] at h
  obtain ⟨⟨v,hv,hr⟩,hs⟩:=h
  obtain ⟨vs,h1,h2,h3,h4⟩:=RDs_vals hs
  refine ⟨v :: vs,by simp [h1],fun j u hu=>?_,by simp [h1],fun j c hc=>?_⟩
  ·cases j with
   | zero=>cases hu;exact hv
   | succ j=>have:=h2 j u hu;rw [show i+(j+1)=i+1+j by omega];exact this
  ·cases j with
   | zero=>cases hc;exact ⟨v,rfl,RC_ofD hr⟩
   | succ j =>
    obtain ⟨x',hx',hr'⟩:=h4 j c hc
    exact ⟨x',hx',by rw [show i+(j+1)=i+1+j by omega];exact hr'⟩

theorem RC_own_any {o o':Ow} {p p':List Nat} {c:C} {v:Value} (hc:c.copy=c) (h:RC w G o p c v):RC w G o' p' c v:=by
 have:=zit (o':=o') (p':=p') h
 rwa [hc] at this

theorem ofD_copy {m:Md} (hm:m.isOwn=false) (x:D):(C.ofD m x).copy=C.ofD m x:=by
 cases x with
 | sc v=>rfl
 | sl n cs=>cases m <;> first | rfl | simp [Md.isOwn] at hm

theorem zod {o o':Ow} {p p':List Nat} {i i':Nat} {cs:List C} {vs:List Value} (hc:cs.map C.copy=cs) (h:RCs w G o p i cs vs):RCs w G o' p' i' cs vs:=by
 have:=zji (o':=o') (p':=p') (i':=i') h
 rwa [hc] at this

theorem seg_map {α β:Type} {f:α→β} {cs sg:List α} {off size:Nat} (h:seg cs off size=some sg):seg (cs.map f) off size=some (sg.map f):=by
 unfold seg at h ⊢
 split at h
 ·rename_i hle
  cases h
  rw [if_pos (by rw [List.length_map];exact hle),List.map_take,List.map_drop]
 ·cases h

theorem ok_loadEp (h:Sim d N G σ a.tmps w) (hd:dst.all (· < N)=true) (t:TypeId) (x:Operand) {i:TI} (hi:ti g.P t=some i) {m:Md} {cs:List D} {ps:Nat} (hx:opnd σ.env x=.one (.ep m cs ps))
 {sg:List D} (hs:seg cs ps i.size=some sg) {v:AV} (hv:mkAV i.agg (sg.map (C.ofD m))=some v) :
 OpOK g.P d N G w a { dst,op:=.load t x,type:=ty,pos,after,guard } σ v:=by
 have hxv:=h.opnd x
 rw [hx] at hxv
 obtain ⟨hm,h1,b,off,hxv,hk,hu,hr⟩:=hxv
 obtain ⟨vs,hl,hcell,hrc⟩:=RDs_vals hr
 obtain ⟨hle,hsl,_⟩:=zhx hs
 have hseg:=RCs_seg hrc (seg_map (f:=C.ofD m) hs)
 have hlen:((vs.drop ps).take i.size).length=i.size:=by rw [hseg.1,List.length_map,hsl]
 have hcp:(sg.map (C.ofD m)).map C.copy=sg.map (C.ofD m):=by
  rw [List.map_map];exact List.map_congr_left fun x _=>ofD_copy hm x
 have hrun:=zfi (w:=w) hi b (off+ps) _ hlen (fun j u hu=>by
  rw [List.getElem?_take] at hu
  split at hu
  ·rw [List.getElem?_drop] at hu
   have:=hcell (ps+j) u hu
   rw [Nat.zero_add,← Nat.add_assoc] at this
   exact this
  ·cases hu) (fun hag=>by have:=zki hv hag;rwa [List.length_map,hsl] at this)
 refine OpOK.mk (r:=_) hd (by simp only [execOp,hxv];simp only [Sem.run_bind,hrun,Result.andThen_ok];rfl) (Frm.refl _ _ _) h fun t' _=>?_
 refine (znj hv (vs:=(vs.drop ps).take i.size) (fun _=>zod hcp hseg) (fun _ c hcs=>?_)).1
 have h2:=zod (o':=Ow.slot d t') (p':=[]) (i':=0) hcp hseg
 rw [hcs] at h2
 obtain ⟨y,hy,hr⟩:=zid h2
 refine ⟨y,hy,?_⟩
 have hc1:c.copy=c:=by rw [hcs] at hcp;simpa using hcp
 exact RC_own_any hc1 hr

def cellT (k:Key) (off size:Nat) (o':Ow) (agg:Bool):Tag→Tag
 | .at (.cell k') (i :: q)=>if k'=k∧off≤i∧i < off+size then .at o' (if agg then (i - off) :: q else q) else .at (.cell k') (i :: q)
 | t=>t

theorem zis {d:Nat} (k:Key) (off size:Nat) (o':Ow) (agg:Bool):RenW d (cellT k off size o' agg) where
 box _:=rfl
 foreign:=rfl
 at_ x p:=by
  cases x with
  | cell k' =>
   cases p with
   | nil=>exact ⟨_,_,rfl⟩
   | cons i q =>
    by_cases hc:k'=k∧off≤i∧i < off+size
    ·exact ⟨o',_,by simp only [cellT];rw [if_pos hc]⟩
    ·exact ⟨.cell k',i :: q,by simp only [cellT];rw [if_neg hc]⟩
  | slot a b=>exact ⟨_,_,rfl⟩
  | ret=>exact ⟨_,_,rfl⟩
 keep t ht:=by
  cases t with
  | foreign=>rfl
  | box k=>rfl
  | «at» x p =>
   cases x with
   | cell k'=>exact absurd trivial ht
   | slot a b=>rfl
   | ret=>rfl

theorem cellT_ok {d:Nat} (k:Key) (off size:Nat) (o':Ow) (agg:Bool) (hdp:o'.dep d≤k.1):RenOK d (cellT k off size o' agg) where
 toRenW:=zis k off size o' agg
 dp x p:=by
  cases x with
  | cell k' =>
   cases p with
   | nil=>exact Nat.le_refl _
   | cons i q =>
    simp only [cellT]
    split
    ·rename_i hc;rw [hc.1];exact hdp
    ·exact Nat.le_refl _
  | slot a b=>exact Nat.le_refl _
  | ret=>exact Nat.le_refl _

theorem zdp {α:Type} (l:List α) (off:Nat) (new:List α) (h:off+new.length≤l.length) (j:Nat) :
 (splice l off new)[j]?=if off≤j∧j < off+new.length then new[j - off]? else l[j]?:=by
 unfold splice
 rw [List.append_assoc,List.getElem?_append]
 simp only [List.length_take]
 rw [Nat.min_eq_left (by omega)]
 split
 ·rename_i hlt
  rw [if_neg (by omega),List.getElem?_take,if_pos hlt]
 ·rename_i hge
  rw [List.getElem?_append]
  split
  ·rename_i h2
   rw [if_pos (by omega)]
  ·rename_i h2
   rw [if_neg (by omega),List.getElem?_drop]
   congr 1
   omega

theorem zas {α:Type} (l:List α) (off:Nat) (new:List α) (h:off+new.length≤l.length):(splice l off new).length=l.length:=by
 unfold splice
 simp only [List.length_append,List.length_take,List.length_drop]
 omega

theorem C.copy_twice (c:C):c.copy.copy=c.copy:=by
 cases c with
 | l m n cs=>cases m <;> rfl
 | _=>rfl

theorem load_core (h:Sim d N G σ a.tmps w) (dst:Option Nat) (t:TypeId) (x:Operand) {i:TI} (hi:ti g.P t=some i) {k:Key} {off:Nat} (hx:opnd σ.env x=.one (.ptr k off))
 {cs sg:List C} (hm:σ.mem k=some cs) (hkd:k.1=d∨k.1+1=d∧(σ.mem (d,deepK)).isSome=true) (hs:seg cs off i.size=some sg) {v:AV} (hv:mkAV i.agg sg=some v) :
 ∃ r G',(execOp a.eval { dst,op:=.load t x,type:=ty,pos,after,guard }).run g.P w=.ok (.value r) w∧Frm d G w G' w∧Sim d N G' { σ with mem:=upd σ.mem k (some (splice cs off (sg.map fun _=>C.dead))) } a.tmps w ∧
  (∀ t,dst=some t→RA w G' (.slot d t) v r)∧G'.β k=G.β k∧∀ o p o' p' c y,RC w G o p c y→RC w G' o' p' c.copy y:=by
 have hxv:=h.opnd x
 rw [hx] at hxv
 obtain ⟨hl,hxv⟩:=hxv
 obtain ⟨hle,hsl,hsg⟩:=zhx hs
 obtain ⟨us,hlen,hcl,hseg⟩:=h.vals hm hs
 have dslot:∀ t',(Ow.slot d t').dep d≤d:=fun t'=>Nat.le_refl _
 have dret:Ow.ret.dep d≤d:=Nat.le_refl _
 have hag:∀ o':Ow,o'.dep d≤d→∀ b t0,G.own b=some t0→(cellT k off i.size o' i.agg t0).dep d≤G.age b:=fun o' ho b t0 hb=>by
  have ha:=h.aged b t0 hb
  cases t0 with
  | foreign=>exact ha
  | box k'=>exact ha
  | «at» x p =>
   cases x with
   | slot a b=>exact ha
   | ret=>exact ha
   | cell k' =>
    cases p with
    | nil=>exact ha
    | cons j q =>
     simp only [cellT]
     split
     ·rename_i hc
      have ha:k'.1≤G.age b:=ha
      rw [hc.1] at ha
      show o'.dep d≤_
      rcases hkd with e | ⟨e,hl⟩
      ·omega
      ·have:=h.jump ((h.live _).2 hl) b
       omega
     ·exact ha
 have hrun:=zfi (w:=w) hi (G.β k) off _ hlen hcl (fun hag=>by rw [← hsl];exact zki hv hag)
 have hlm:off+(sg.map fun _=>C.dead).length≤cs.length:=by rw [List.length_map,hsl];exact hle

 have key:∀ o',o'.dep d≤d→Sim d N (Ev.ren G (cellT k off i.size o' i.agg)) { σ with mem:=upd σ.mem k (some (splice cs off (sg.map fun _=>C.dead))) } a.tmps w∨∃ k',o'=.cell k':=by
  intro o' hdp
  cases o' with
  | cell k'=>exact .inr ⟨k',rfl⟩
  | slot d' t' =>
   left
   refine h.renG (zis k off i.size _ i.agg) (hag _ hdp) _ _ (fun t2=>.inr ⟨rfl,fun q=>rfl⟩) (fun k2=>?_) ?_
   ·by_cases hk:k2=k
    ·subst hk
     refine .inr ⟨cs,_,hm,by simp [upd],zas _ _ _ hlm,fun j c' hj=>?_⟩
     rw [zdp _ _ _ hlm] at hj
     split at hj
     ·rw [List.getElem?_map] at hj
      cases hq:sg[j - off]? with
      | none=>rw [hq] at hj;cases hj
      | some c0=>rw [hq] at hj;cases hj;exact .inl rfl
     ·rename_i hne
      rw [List.length_map,hsl] at hne
      refine .inr ⟨hj,fun q=>?_⟩
      simp only [cellT]
      rw [if_neg (fun hh=>hne hh.2)]
    ·cases hm2:σ.mem k2 with
     | none=>exact .inl ⟨by simp [upd,hk,hm2],rfl⟩
     | some cs2=>exact .inr ⟨cs2,cs2,rfl,by simp [upd,hk,hm2],rfl,fun j c' hj=>.inr ⟨hj,fun q=>by simp [cellT,hk]⟩⟩
   ·intro o p k2 q hq
    cases o with
    | cell k3 =>
     left
     cases p with
     | nil=>simp only [cellT,Tag.at.injEq,Ow.cell.injEq] at hq;exact ⟨k3,rfl,hq.1⟩
     | cons j q' =>
      simp only [cellT] at hq
      split at hq
      ·cases hq
      ·simp only [Tag.at.injEq,Ow.cell.injEq] at hq;exact ⟨k3,rfl,hq.1⟩
    | slot a b=>simp [cellT] at hq
    | ret=>simp [cellT] at hq
  | ret =>
   left
   refine h.renG (zis k off i.size _ i.agg) (hag _ hdp) _ _ (fun t2=>.inr ⟨rfl,fun q=>rfl⟩) (fun k2=>?_) ?_
   ·by_cases hk:k2=k
    ·subst hk
     refine .inr ⟨cs,_,hm,by simp [upd],zas _ _ _ hlm,fun j c' hj=>?_⟩
     rw [zdp _ _ _ hlm] at hj
     split at hj
     ·rw [List.getElem?_map] at hj
      cases hq:sg[j - off]? with
      | none=>rw [hq] at hj;cases hj
      | some c0=>rw [hq] at hj;cases hj;exact .inl rfl
     ·rename_i hne
      rw [List.length_map,hsl] at hne
      refine .inr ⟨hj,fun q=>?_⟩
      simp only [cellT]
      rw [if_neg (fun hh=>hne hh.2)]
    ·cases hm2:σ.mem k2 with
     | none=>exact .inl ⟨by simp [upd,hk,hm2],rfl⟩
     | some cs2=>exact .inr ⟨cs2,cs2,rfl,by simp [upd,hk,hm2],rfl,fun j c' hj=>.inr ⟨hj,fun q=>by simp [cellT,hk]⟩⟩
   ·intro o p k2 q hq
    cases o with
    | cell k3 =>
     left
     cases p with
     | nil=>simp only [cellT,Tag.at.injEq,Ow.cell.injEq] at hq;exact ⟨k3,rfl,hq.1⟩
     | cons j q' =>
      simp only [cellT] at hq
      split at hq
      ·cases hq
      ·simp only [Tag.at.injEq,Ow.cell.injEq] at hq;exact ⟨k3,rfl,hq.1⟩
    | slot a b=>simp [cellT] at hq
    | ret=>simp [cellT] at hq
 have hrun':(execOp a.eval { dst,op:=.load t x,type:=ty,pos,after,guard }).run g.P w=.ok (.value (if i.agg then .agg us.toArray else us[0]?.getD undef)) w:=by
  simp only [execOp,hxv];simp only [Sem.run_bind,hrun,Result.andThen_ok];rfl
 have hval:∀ o',o'.dep d≤d→RA w (Ev.ren G (cellT k off i.size o' i.agg)) o' v (if i.agg then .agg us.toArray else us[0]?.getD undef):=by
  intro o' hdp
  refine (znj hv (vs:=us) (fun hag=>⟨hseg.1,fun j c hj=>?_⟩) (fun hag c hcs=>?_)).1
  ·obtain ⟨y,hy,hr⟩:=hseg.2 j c hj
   refine ⟨y,hy,((zis (d:=d) k off i.size o' i.agg).hands G w (o:=.cell k) (o':=o') (p:=[] ++ [0+off+j]) (p':=[] ++ [0+j]) fun q=>?_).rc0 hr⟩
   have hjs:j < i.size:=by
    rcases Nat.lt_or_ge j i.size with hlt | hge
    ·exact hlt
    ·rw [List.getElem?_eq_none (by omega)] at hj;cases hj
   simp only [List.nil_append,List.cons_append,cellT,hag,Nat.zero_add]
   rw [if_pos ⟨trivial,by omega,by omega⟩]
   simp
  ·subst hcs
   obtain ⟨y,hy,hr⟩:=zid hseg
   refine ⟨y,hy,((zis (d:=d) k off i.size o' i.agg).hands G w (o:=.cell k) (o':=o') (p:=[] ++ [0+off]) (p':=[]) fun q=>?_).rc0 hr⟩
   have h1:i.size=1:=by rw [← hsl];rfl
   simp only [List.nil_append,List.cons_append,cellT,hag,Nat.zero_add]
   rw [if_pos ⟨trivial,by omega,by omega⟩]
   simp
 have hcopy:∀ o'' o p o' p' c y,RC w G o p c y→RC w (Ev.ren G (cellT k off i.size o'' i.agg)) o' p' c.copy y:=fun o'' o p o' p' c y hr=>by
  have h1:=zit (o':=.slot d 0) (p':=[]) hr
  have h2:=((zis (d:=d) k off i.size o'' i.agg).hands G w (o:=.slot d 0) (o':=.slot d 0) (p:=[]) (p':=[]) fun q=>rfl).rc0 h1
  have h3:=zit (o':=o') (p':=p') h2
  rwa [C.copy_twice] at h3
 cases dst with
 | none =>
  have hS:=(key .ret dret).resolve_right (by rintro ⟨k',hk'⟩;cases hk')
  exact ⟨_,_,hrun',(zis k off i.size _ i.agg).frm G w,hS,(fun _ ht=>by cases ht),rfl,hcopy _⟩
 | some t' =>
  have hS:=(key (.slot d t') (dslot t')).resolve_right (by rintro ⟨k',hk'⟩;cases hk')
  exact ⟨_,_,hrun',(zis k off i.size _ i.agg).frm G w,hS,(fun _ ht=>by cases ht;exact hval _ (dslot t')),rfl,hcopy _⟩

theorem ok_loadTake (h:Sim d N G σ a.tmps w) (hd:dst.all (· < N)=true) (t:TypeId) (x:Operand) {i:TI} (hi:ti g.P t=some i) {k:Key} {off:Nat} (hx:opnd σ.env x=.one (.ptr k off))
 {cs sg:List C} (hm:σ.mem k=some cs) (hkd:k.1=d∨k.1+1=d∧(σ.mem (d,deepK)).isSome=true) (hs:seg cs off i.size=some sg) {v:AV} (hv:mkAV i.agg sg=some v) :
 OpOK g.P d N G w a { dst,op:=.load t x,type:=ty,pos,after,guard } { σ with mem:=upd σ.mem k (some (splice cs off (sg.map fun _=>C.dead))) } v:=by
 obtain ⟨r,G',h1,h2,h3,h4,_⟩:=load_core (g:=g) (ty:=ty) (pos:=pos) (after:=after) (guard:=guard) h dst t x hi hx hm hkd hs hv
 exact OpOK.mk hd h1 h2 h3 h4

end
end Go.Ev


namespace Go.Ev
section
variable {g:Cfg} {d N:Nat} {G:Gh} {σ:St} {w:World} {a:Act} {dst:Option Nat} {ty:TypeId} {pos:String} {after:Array Edge} {guard:Option (Nat × Bool)}

theorem znp {w:World} {b:Nat} {arr arr':Array Value} {e:TypeId} (ha:w.heap[b]?=some (.cells arr e (0,0))):Kept w (w.setRow b arr'):=by
 refine ⟨⟨rfl,rfl,rfl⟩,fun a hlt=>⟨by rwa [setRow_size],?_⟩⟩
 by_cases h:a.block=b
 ·have h1:(w.setRow b arr').heap[a.block]?=some (.cells arr' e (0,0)):=by rw [h];exact setRow_heap w b arr arr' e _ ha
  have h2:w.heap[a.block]?=some (.cells arr e (0,0)):=by rw [h];exact ha
  simp [World.frozen?,h1,h2]
 ·simp [World.frozen?,setRow_other w b a.block arr' h]

theorem Sim.setBox {tm:Array Value} (h:Sim d N G σ tm w) {k:Key} {arr arr':Array Value} {e:TypeId} {cs0 cs':List C} (hk0:σ.mem k=some cs0) (hk1:cs0≠[])
 (ha:w.heap[G.β k]?=some (.cells arr e (0,0))) (hb:G.own (G.β k)=some (.box k)) (hz:arr'.size=arr.size) (hr:RCs w G (.cell k) [] 0 cs' (arr'.toList.take cs'.length)) :
 Sim d N G { σ with mem:=upd σ.mem k (some cs') } tm (w.setRow (G.β k) arr')∧Frm d G w G (w.setRow (G.β k) arr'):=by
 have hk:(σ.mem k).isSome=true:=by rw [hk0];rfl
 have hne:∀ b,G.own b≠some (.box k)→b≠G.β k:=fun b hb' e=>hb' (e ▸ hb)
 have hH:∀ o p,Hands w G (w.setRow (G.β k) arr') G o p o p fun _=>false:=fun o p =>
  {tag:=fun b q _ hq=>⟨hq,rfl,setRow_other w _ b _ (hne b (by rw [hq];simp))⟩
   nil:=fun _ _ h=>h
   nilh:=fun b _ hq=>setRow_other w _ b _ (hne b (by rw [hq];simp))
   box:=fun _ _ h=>h
   use:=fun _ _ _=>Nat.le_refl _
   cell:=fun b off _ hk' _=>World.cell?_of_block (setRow_other w _ b _ (hne b (hk' k)))
   live:=fun k' hl _=>⟨hl,rfl,rfl⟩ }
 refine ⟨{ sz:=h.sz,env:=fun t=>(hH _ _).ra0 (h.env t),mem:=fun k2 cs2 hk2 hn2=>?_,live:=fun k2=>?_,dep:=h.dep,wf:=fun b t hb'=>by rw [setRow_size];exact h.wf b t hb',wfb:=h.wfb,wfc:=h.wfc,age:=h.age,fut:=fun b hb=>h.fut b (by rwa [setRow_size] at hb),aged:=h.aged,jump:=h.jump },
  {size:=by rw [setRow_size];exact Nat.le_refl _,kept:=znp ha,same:=fun b _ ht=>⟨setRow_other w _ b _ (fun e=>ht (by rw [e,hb];trivial)),rfl,rfl⟩,age:=fun _ _ _=>rfl,box:=fun _ _ _ h=>h,use:=fun _ _ _=>Nat.le_refl _,cell:=fun b off hb _=>(hH .ret []).cell b off hb,live:=fun _ h _=>⟨h,rfl,rfl⟩,back:=fun _ _ h=>.inl h,up:=fun _ h=>h }⟩
 ·by_cases hkk:k2=k
  ·subst hkk
   have:upd σ.mem k2 (some cs') k2=some cs2:=hk2
   simp only [upd,if_true,Option.some.injEq] at this
   subst this
   obtain ⟨arr0,e0,h1,_,h2,_⟩:=h.mem k2 cs0 hk0 hk1
   rw [ha] at h1
   cases h1
   exact ⟨arr',e,setRow_heap w _ arr arr' e _ ha,hb,hz.trans h2,(hH _ _).rcs0 hr⟩
  ·have:upd σ.mem k (some cs') k2=some cs2:=hk2
   simp only [upd,hkk,if_false] at this
   obtain ⟨arr2,e2,h1,h2,h2c,h3⟩:=h.mem k2 cs2 this hn2
   refine ⟨arr2,e2,?_,h2,h2c,(hH _ _).rcs0 h3⟩
   rw [setRow_other w _ _ _ (hne _ (by rw [h2];simpa using hkk))]
   exact h1
 ·rw [h.live k2]
  show (σ.mem k2).isSome=true ↔ (upd σ.mem k (some cs') k2).isSome=true
  by_cases hkk:k2=k
  ·subst hkk;simp [upd,hk]
  ·simp [upd,hkk]

def slotT (d t:Nat) (k:Key) (off:Nat) (agg:Bool):Tag→Tag
 | .at (.slot d' t') q=>if d'=d∧t'=t then (if agg then (match q with | []=>.at .ret [] | j :: q'=>.at (.cell k) ((off+j) :: q')) else .at (.cell k) (off :: q)) else .at (.slot d' t') q
 | x=>x

theorem slotT_ok {d:Nat} (t:Nat) (k:Key) (off:Nat) (agg:Bool) (hkd:k.1≤d):RenOK d (slotT d t k off agg) where
 dp x p:=by
  cases x with
  | cell k'=>exact Nat.le_refl _
  | ret=>exact Nat.le_refl _
  | slot d' t' =>
   simp only [slotT]
   split
   ·rename_i hc
    rw [hc.1]
    cases agg with
    | true=>cases p with
     | nil=>exact Nat.le_refl _
     | cons j q=>exact hkd
    | false=>exact hkd
   ·exact Nat.le_refl _
 box _:=rfl
 foreign:=rfl
 at_ x p:=by
  cases x with
  | cell k'=>exact ⟨_,_,rfl⟩
  | ret=>exact ⟨_,_,rfl⟩
  | slot d' t' =>
   by_cases hc:d'=d∧t'=t
   ·simp only [slotT]
    rw [if_pos hc]
    cases agg with
    | true=>cases p <;> exact ⟨_,_,rfl⟩
    | false=>exact ⟨_,_,rfl⟩
   ·simp only [slotT]
    rw [if_neg hc]
    exact ⟨_,_,rfl⟩
 keep x hx:=by
  cases x with
  | foreign=>rfl
  | box k=>rfl
  | «at» o p =>
   cases o with
   | cell k'=>rfl
   | ret=>rfl
   | slot d' t' =>
    simp only [slotT]
    rw [if_neg]
    rintro ⟨rfl,_⟩
    exact hx (Nat.le_refl _)

def isAgV:AV→Bool
 | .ag _=>true
 | _=>false

theorem zmk {o:Ow} {x:AV} {v:Value} {cs:List C} (hc:x.cells=some cs) (h:RA w G o x v) :
 v.cells.size=cs.length∧∀ j c,cs[j]?=some c→∃ y,v.cells.toList[j]?=some y∧RC w G o (if isAgV x then [j] else []) c y:=by
 cases x with
 | one c =>
  have hd:c.isDead=false∧cs=[c]:=by
   cases c <;> simp [AV.cells] at hc <;> exact ⟨rfl,hc.symm⟩
  obtain ⟨hd,rfl⟩:=hd
  have hv:v.cells = #[v]:=by
   cases c with
   | s u=>obtain ⟨rfl,hs⟩:=h;cases v <;> first | rfl | simp [scal] at hs
   | l m n es =>
    have h':RD w G o m [] (.sl n es) v:=h
    rw [RD] at h'
    rcases h' with ⟨_,_,ad,cap,rfl,_⟩|⟨_,_,b,off,cap,rfl,_⟩ <;> rfl
   | ep m es ps=>obtain ⟨_,_,b,off,rfl,_⟩:=h;rfl
   | ptr k off=>obtain ⟨_,rfl⟩:=h;rfl
   | fn f caps=>obtain ⟨_,vs,rfl,_⟩:=h;rfl
   | bs k n sz=>obtain ⟨_,_,ba,cap,rfl,_⟩:=h;rfl
   | mp es=>obtain ⟨b,arr,clock,rfl,_⟩:=h;rfl
   | dead=>simp [C.isDead] at hd
  refine ⟨by rw [hv];rfl,fun j c' hj=>?_⟩
  cases j with
  | zero=>cases hj;exact ⟨v,by rw [hv];rfl,h⟩
  | succ j=>simp at hj
 | ag cs' =>
  cases hc
  obtain ⟨vs,rfl,hl,hg⟩:=h
  exact ⟨by simpa [Value.cells] using hl,fun j c hj=>by
   obtain ⟨y,hy,hr⟩:=hg j c hj
   exact ⟨y,hy,by simpa [isAgV] using hr⟩⟩
 | tu l=>cases hc

theorem Sim.takeCells {tm:Array Value} {env:Operand→Value} (h:Sim d N G σ tm w) (he:∀ t,env (.tmp t)=tm.getD t undef) (he2:∀ v,env (.const v)=v) (he3:∀ f,env (.func f)=.func (.func f) #[] #[]) (x:Operand) (k:Key) (off:Nat) (hk:(σ.mem k).isSome=true)
 {cs:List C} (hc:(Ev.opnd σ.env x).cells=some cs) :
 ∃ G',Sim d N G' { σ with env:=Ev.kil σ.env x } tm w∧Frm d G w G' w∧G'.β=G.β∧G'.live=G.live∧(env x).cells.size=cs.length ∧
  (∀ k',(∀ i,G.own (G.β k')=some (.box i)→G'.own (G.β k')=some (.box i))) ∧
  (∀ j c,cs[j]?=some c→∃ y,(env x).cells.toList[j]?=some y∧RC w G' (.cell k) [off+j] c y) ∧
  (∀ k' p c v,RC w G (.cell k') p c v→RC w G' (.cell k') p c v):=by
 cases x with
 | tmp t =>
  have hφ:=slotT_ok (d:=d) t k off (isAgV (σ.env t)) (h.dep k ((h.live k).2 hk))
  have hra:=zmk hc (h.env t)
  refine ⟨Ev.ren G (slotT d t k off (isAgV (σ.env t))),h.ren hφ _ _ (fun t2=>?_) (Sim.memSame _ fun k q=>rfl) ?_,hφ.frm G w,rfl,rfl,by rw [he];exact hra.1,fun k' i hi=>by rw [zgs,hi];rfl,fun j c hj=>?_,fun k' p c v hr=>?_⟩
  ·by_cases ht:t2=t
   ·left;simp [Ev.kil,upd,ht]
   ·right
    refine ⟨by simp [Ev.kil,upd,ht],fun q=>?_⟩
    simp [slotT,ht]
  ·intro o p k2 q hq
   cases o with
   | cell k3=>left;simp only [slotT,Tag.at.injEq,Ow.cell.injEq] at hq;exact ⟨k3,rfl,hq.1⟩
   | ret=>simp [slotT] at hq
   | slot d' t' =>
    simp only [slotT] at hq
    split at hq
    ·right
     have hk2:k2=k:=by
      cases hag:isAgV (σ.env t) with
      | true =>
       rw [hag] at hq
       cases p with
       | nil=>simp at hq
       | cons j q'=>simp at hq;exact hq.1.symm
      | false=>rw [hag] at hq;simp at hq;exact hq.1.symm
     rw [hk2,h.live k]
     exact hk
    ·cases hq
  ·obtain ⟨y,hy,hr⟩:=hra.2 j c hj
   refine ⟨y,by rw [he];exact hy,(hφ.hands G w (o:=.slot d t) (o':=.cell k) (p:=if isAgV (σ.env t) then [j] else []) (p':=[off+j]) fun q=>?_).rc0 hr⟩
   cases hag:isAgV (σ.env t) with
   | true=>simp [slotT]
   | false =>
    have hj0:j=0:=by
     have hl:cs.length=1:=by
      have hc':(σ.env t).cells=some cs:=hc
      cases hx:σ.env t with
      | one c0=>rw [hx] at hc';cases c0 <;> simp [AV.cells] at hc' <;> (rw [← hc'];rfl)
      | ag l=>rw [hx] at hag;simp [isAgV] at hag
      | tu l=>rw [hx] at hc';simp [AV.cells] at hc'
     rcases Nat.lt_or_ge j cs.length with hlt | hge
     ·omega
     ·rw [List.getElem?_eq_none hge] at hj;cases hj
    subst hj0
    simp [slotT]
  ·exact (hφ.hands G w (o:=.cell k') (p:=p) (p':=p) fun q=>rfl).rc0 hr
 | const v =>
  have hra:=zmk hc (zjj (w:=w) (G:=G) (o:=.cell k) v)
  refine ⟨G,h,Frm.refl _ _ _,rfl,rfl,by rw [he2];exact hra.1,fun _ _ h=>h,fun j c hj=>?_,fun _ _ _ _ h=>h⟩
  obtain ⟨y,hy,hr⟩:=hra.2 j c hj
  refine ⟨y,by rw [he2];exact hy,?_⟩
  have hcv:∃ u,c=C.ofValue u:=by
   have hc':(AV.ofValue v).cells=some cs:=hc
   unfold AV.ofValue at hc'
   split at hc'
   ·simp only [AV.cells,Option.some.injEq] at hc'
    subst hc'
    rw [List.getElem?_map] at hj
    cases hq:(Array.toList _)[j]? with
    | none=>rw [hq] at hj;cases hj
    | some u=>rw [hq] at hj;cases hj;exact ⟨u,rfl⟩
   ·have hd:cs=[C.ofValue v]:=by
     revert hc'
     cases C.ofValue v <;> simp [AV.cells] <;> intro h <;> exact h.symm
    subst hd
    cases j with
    | zero=>cases hj;exact ⟨v,rfl⟩
    | succ j=>simp at hj
  obtain ⟨u,rfl⟩:=hcv
  have hyu:RC w G (.cell k) [off+j] (C.ofValue u) y:=by
   unfold C.ofValue at hr ⊢
   split
   ·rename_i hs;rw [if_pos hs] at hr;exact hr
   ·rename_i hs
    rw [if_neg hs] at hr
    split
    ·have hr':RD w G _ .own _ (.sl 0 []) y:=hr
     show RD w G _ .own _ (.sl 0 []) y
     rw [RD] at hr' ⊢
     rcases hr' with hr' | ⟨h1,_⟩
     ·exact .inl hr'
     ·exact absurd rfl h1
    ·exact trivial
  exact hyu
 | global gl=>simp [Ev.opnd,AV.cells] at hc
 | func f =>
  simp only [Ev.opnd,AV.cells,Option.some.injEq] at hc
  subst hc
  refine ⟨G,h,Frm.refl _ _ _,rfl,rfl,by rw [he3];rfl,fun _ _ h=>h,fun j c hj=>?_,fun _ _ _ _ h=>h⟩
  cases j with
  | zero=>cases hj;exact ⟨_,by rw [he3];rfl,⟨fun c hc=>(List.not_mem_nil hc).elim,#[],rfl,rfl⟩⟩
  | succ j=>simp at hj

theorem zpx {o:Ow} {p:List Nat} {c:C} {v:Value} (hd:c.isDead=false) (h:RC w G o p c v):v.oneCell'=true:=by
 cases c with
 | s u=>obtain ⟨rfl,hs⟩:=h;cases v <;> first | rfl | simp [scal] at hs
 | l m n es =>
  have h':RD w G o m p (.sl n es) v:=h
  rw [RD] at h'
  rcases h' with ⟨_,_,ad,cap,rfl,_⟩|⟨_,_,b,off,cap,rfl,_⟩ <;> rfl
 | ep m es ps=>obtain ⟨_,_,b,off,rfl,_⟩:=h;rfl
 | ptr k off=>obtain ⟨_,rfl⟩:=h;rfl
 | fn f caps=>obtain ⟨_,vs,rfl,_⟩:=h;rfl
 | bs k n sz=>obtain ⟨_,_,ba,cap,rfl,_⟩:=h;rfl
 | mp es=>obtain ⟨b,arr,clock,rfl,_⟩:=h;rfl
 | dead=>simp [C.isDead] at hd

theorem splice_take {α:Type} (l:List α) (n off:Nat) (new:List α) (h:off+new.length≤n) (hn:n≤l.length):(splice l off new).take n=splice (l.take n) off new:=by
 apply List.ext_getElem?
 intro j
 rw [zdp _ _ _ (by rw [List.length_take];omega),List.getElem?_take,zdp _ _ _ (by omega),List.getElem?_take]
 split
 ·split <;> rfl
 ·rw [if_neg (by omega)]

theorem ok_store (h:Sim d N G σ a.tmps w) (hd:dst.all (· < N)=true) (t:TypeId) (x y:Operand) {i:TI} (hi:ti g.P t=some i) {k:Key} {off:Nat} (hx:opnd σ.env x=.one (.ptr k off))
 {cs new:List C} (hm:σ.mem k=some cs) (hn:(opnd σ.env y).cells=some new) (hl0':new.length=i.size∧off+i.size≤cs.length∧new.all (fun c=>!c.isDead)=true∧0 < i.size) :
 OpOK g.P d N G w a { dst,op:=.store t x y,type:=ty,pos,after,guard } { env:=kil σ.env y,mem:=upd σ.mem k (some (splice cs off new)) } .dead:=by
 have hxv:=h.opnd x
 rw [hx] at hxv
 obtain ⟨hlv,hxv⟩:=hxv
 have hl:new.length=i.size∧off+i.size≤cs.length∧new.all (fun c=>!c.isDead)=true:=⟨hl0'.1,hl0'.2.1,hl0'.2.2.1⟩
 have hcne:cs≠[]:=by rintro rfl;have:=hl0'.2.2.2;have:=hl.2.1;simp at this;omega
 obtain ⟨G',hS,hF,hβ,hlive,hsz,hbx,hcs,hcell⟩:=h.takeCells (env:=a.eval) (fun _=>rfl) (fun _=>rfl) (fun _=>rfl) y k off (by rw [hm];rfl) hn
 obtain ⟨arr,e,ha,hb,hcap,hc⟩:=h.mem k cs hm hcne
 have hlen:cs.length≤arr.size:=by have h9:=hc.1;rw [List.length_take] at h9;rw [← Array.length_toList];omega
 have hnl:(a.eval y).cells.toList.length=i.size:=by rw [Array.length_toList,hsz,hl.1]
 have h1:∀ v∈(a.eval y).cells.toList,v.oneCell'=true:=by
  intro v hv
  obtain ⟨j,hj⟩:=List.getElem?_of_mem hv
  have hjl:j < new.length:=by
   rcases Nat.lt_or_ge j new.length with hlt | hge
   ·exact hlt
   ·rw [List.getElem?_eq_none (by rw [Array.length_toList,hsz];exact hge)] at hj;cases hj
  obtain ⟨v',hv',hr⟩:=hcs j new[j] (List.getElem?_eq_getElem hjl)
  rw [hj] at hv'
  cases hv'
  have:=List.all_eq_true.1 hl.2.2 new[j] (List.getElem_mem hjl)
  exact zpx (by simpa using this) hr
 have hst:=run_storeCells_at g.P (G.β k) off e (a.eval y).cells.toList 0 arr w ha (by rw [hnl];have:=hl.2.1;omega) h1
 rw [Nat.add_zero] at hst
 have hrun:(execOp a.eval { dst,op:=.store t x y,type:=ty,pos,after,guard }).run g.P w=.ok .skip (w.setRow (G.β k) (splice arr.toList off (a.eval y).cells.toList).toArray):=by
  simp only [execOp,hxv,Instr.storeAt,Instr.sureAddr,storeVar,Sem.run_bind,Sem.run_pure,Result.andThen_ok,zih hi,hsz,hl.1]
  simp [hst,splice]
 have hb':G'.own (G'.β k)=some (.box k):=by rw [hβ];exact hbx k k hb
 have hl0:off+(a.eval y).cells.toList.length≤arr.toList.length:=by rw [hnl,Array.length_toList];have:=hl.2.1;omega
 have hnew:RCs w G' (.cell k) [] 0 (splice cs off new) ((splice arr.toList off (a.eval y).cells.toList).take (splice cs off new).length):=by
  have hl1:off+new.length≤cs.length:=by rw [hl.1];exact hl.2.1
  rw [zas _ _ _ hl1,splice_take _ _ _ _ (by rw [hnl];exact hl.2.1) (by rw [Array.length_toList];exact hlen)]
  have hl2:off+(a.eval y).cells.toList.length≤(arr.toList.take cs.length).length:=by rw [hc.1,hnl];exact hl.2.1
  refine ⟨by rw [zas _ _ _ hl1,zas _ _ _ hl2,hc.1],fun j c hj=>?_⟩
  rw [zdp _ _ _ hl1] at hj
  rw [zdp _ _ _ hl2,hnl,← hl.1]
  split at hj
  ·rename_i hin
   rw [if_pos hin]
   obtain ⟨v,hv,hr⟩:=hcs (j - off) c hj
   refine ⟨v,hv,?_⟩
   rw [show off+(j - off)=j by omega] at hr
   simpa using hr
  ·rename_i hin
   rw [if_neg hin]
   obtain ⟨v,hv,hr⟩:=hc.2 j c hj
   exact ⟨v,hv,hcell _ _ _ _ hr⟩
 obtain ⟨hS2,hF2⟩:=hS.setBox (k:=k) (arr:=arr) (e:=e) (arr':=(splice arr.toList off (a.eval y).cells.toList).toArray) (cs':=splice cs off new) (cs0:=cs) hm hcne (by rw [hβ];exact ha) hb' (by rw [List.size_toArray,zas _ _ _ hl0,Array.length_toList]) (by simpa using hnew)
 rw [hβ] at hS2 hF2
 exact ⟨undef,_,G',.inr ⟨hrun,rfl⟩,hF.trans hF2,hS2.put hd fun _ _=>trivial⟩

end
end Go.Ev


namespace Go.Ev
section
variable {g:Cfg} {d N:Nat} {G:Gh} {σ:St} {w:World} {a:Act} {dst:Option Nat} {ty:TypeId} {pos:String} {after:Array Edge} {guard:Option (Nat × Bool)}

theorem zhd (w:World) (o:Obj):(w.alloc o).heap[w.heap.size]?=some o:=heap_alloc_new w o
theorem zfz (w:World) (o:Obj) {b:Nat} (h:b < w.heap.size):(w.alloc o).heap[b]?=w.heap[b]?:=heap_alloc_old w o b h

def newG (G:Gh) (b:Nat) (t:Option Tag) (u:Nat):Gh:={ G with own:=upd G.own b t,use:=upd G.use b u }

theorem zkg (G:Gh) (w:World) (o:Obj) (t:Option Tag) (u:Nat) (β:Key→Nat) (cap:Key→Nat) (live:Key→Prop) (hl:∀ k,G.live k→live k∧β k=G.β k∧cap k=G.cap k) (o':Ow) (p:List Nat) :
 Hands w G (w.alloc o) { newG G w.heap.size t u with β:=β,live:=live,cap:=cap } o' p o' p fun _=>false where
 tag b q hb hq:=by
  have hne:b≠w.heap.size:=Nat.ne_of_lt hb
  exact ⟨by show upd G.own _ t b=_;simp [upd,hne,hq],by show upd G.use _ u b=_;simp [upd,hne],zfz w o hb⟩
 nil b hb hq:=by
  have hne:b≠w.heap.size:=Nat.ne_of_lt hb
  show upd G.own _ t b=_;simp [upd,hne,hq]
 nilh b hb _:=zfz w o hb
 box b hb hq k:=by
  have hne:b≠w.heap.size:=Nat.ne_of_lt hb
  show upd G.own _ t b≠_;simp only [upd,hne,if_false];exact hq k
 use b hb _:=by
  have hne:b≠w.heap.size:=Nat.ne_of_lt hb
  show _≤upd G.use _ u b;simp [upd,hne]
 cell b off hb _ _:=World.cell?_of_block (zfz w o hb)
 live k hk _:=hl k hk

theorem kept_alloc (w:World) (arr:Array Value) (e:TypeId):Kept w (w.alloc (.cells arr e)):=by
 refine ⟨⟨rfl,rfl,rfl⟩,fun a hlt=>⟨by rw [World.size_alloc];omega,?_⟩⟩
 simp [World.frozen?,zfz w _ hlt]

theorem newG_frm (d:Nat) (G:Gh) (w:World) (arr:Array Value) (el:TypeId) (t:Option Tag) (u:Nat) (β:Key→Nat) (cap:Key→Nat) (live:Key→Prop) (hl:∀ k,G.live k→live k∧β k=G.β k∧cap k=G.cap k) (hbk:∀ k,k.1 < d→live k→G.live k):Frm d G w { newG G w.heap.size t u with β:=β,live:=live,cap:=cap } (w.alloc (.cells arr el)) where
 size:=by rw [World.size_alloc];exact Nat.le_succ _
 kept:=kept_alloc w arr el
 same b hb _:=by
  have hne:b≠w.heap.size:=Nat.ne_of_lt hb
  exact ⟨zfz w _ hb,by show upd G.own _ t b=_;simp [upd,hne],by show upd G.use _ u b=_;simp [upd,hne]⟩
 age _ _ _:=rfl
 box b hb _ hq k:=by
  have hne:b≠w.heap.size:=Nat.ne_of_lt hb
  show upd G.own _ t b≠_;simp only [upd,hne,if_false];exact hq k
 use b hb _:=by
  have hne:b≠w.heap.size:=Nat.ne_of_lt hb
  show _≤upd G.use _ u b;simp [upd,hne]
 cell b off hb _ _ _:=World.cell?_of_block (zfz w _ hb)
 live k hk _:=hl k hk
 back:=fun k hk hl=>.inl (hbk k hk hl)
 up _ h:=h

theorem Sim.newBox {tm:Array Value} (h:Sim d N G σ tm w) {k:Key} (hk:σ.mem k=none) (hkd:k.1=d∧k≠(d,deepK)) (arr:Array Value) (e:TypeId) (n:Nat) (hn:arr.size=n) :
 ∃ G',Sim d N G' { σ with mem:=upd σ.mem k (some (List.replicate n C.dead)) } tm (w.alloc (.cells arr e))∧Frm d G w G' (w.alloc (.cells arr e))∧G'.β k=w.heap.size∧G'.cap k=arr.size:=by
 have hnl:¬ G.live k:=by rw [h.live k,hk];simp
 have hl:∀ k',G.live k'→(k'=k∨G.live k')∧upd G.β k w.heap.size k'=G.β k'∧upd G.cap k arr.size k'=G.cap k':=by
  intro k' hk'
  have hne:k'≠k:=fun e=>hnl (e ▸ hk')
  exact ⟨.inr hk',by simp [upd,hne],by simp [upd,hne]⟩
 have hH:=zkg G w (.cells arr e) (some (.box k)) arr.size (upd G.β k w.heap.size) (upd G.cap k arr.size) (fun x=>x=k∨G.live x) hl
 refine ⟨_,{ sz:=h.sz,env:=fun t=>(hH _ _).ra0 (h.env t),mem:=fun k2 cs2 hk2 hn2=>?_,live:=fun k2=>?_,dep:=?_,wf:=?_,wfb:=?_,wfc:=?_,age:=h.age,fut:=fun b hb=>h.fut b (by rw [World.size_alloc] at hb;omega),aged:=?_,jump:=fun hj b=>hj.elim (fun e=>absurd e.symm hkd.2) fun hl'=>h.jump hl' b },newG_frm d G w _ _ _ _ _ _ _ hl (fun k' hk' hl'=>hl'.elim (fun e=>by rw [e,hkd.1] at hk';omega) id),by simp [upd],by simp [upd]⟩
 ·by_cases hkk:k2=k
  ·subst hkk
   have:upd σ.mem k2 (some (List.replicate n C.dead)) k2=some cs2:=hk2
   simp only [upd,if_true,Option.some.injEq] at this
   subst this
   refine ⟨arr,e,?_,?_,by simp [upd],by simp [hn],fun j c hj=>?_⟩
   ·show (w.alloc _).heap[upd G.β k2 _ k2]?=_;simp only [upd,if_true];exact zhd w _
   ·show upd G.own _ _ (upd G.β k2 _ k2)=_;simp [upd]
   ·have hjn:j < n:=by
     rcases Nat.lt_or_ge j n with hlt | hge
     ·exact hlt
     ·rw [List.getElem?_eq_none (by simpa using hge)] at hj;cases hj
    rw [List.getElem?_replicate] at hj
    simp only [hjn,if_true,Option.some.injEq] at hj
    subst hj
    have:j < (arr.toList.take (List.replicate n C.dead).length).length:=by simp [hn];exact hjn
    exact ⟨_,List.getElem?_eq_getElem this,trivial⟩
  ·have:upd σ.mem k (some (List.replicate n C.dead)) k2=some cs2:=hk2
   simp only [upd,hkk,if_false] at this
   obtain ⟨arr2,e2,h1,h2,h2c,h3⟩:=h.mem k2 cs2 this hn2
   have hlt:G.β k2 < w.heap.size:=h.wf _ _ h2
   have hne:G.β k2≠w.heap.size:=Nat.ne_of_lt hlt
   refine ⟨arr2,e2,?_,?_,by show arr2.size=upd G.cap k _ k2;simp only [upd,hkk,if_false];exact h2c,(hH _ _).rcs0 h3⟩
   ·show (w.alloc _).heap[upd G.β k _ k2]?=_;simp only [upd,hkk,if_false];rw [zfz w _ hlt];exact h1
   ·show upd G.own _ _ (upd G.β k _ k2)=_;simp only [upd,hkk,if_false,hne];exact h2
 ·show (k2=k∨G.live k2) ↔ (upd σ.mem k (some (List.replicate n C.dead)) k2).isSome=true
  by_cases hkk:k2=k
  ·subst hkk;simp [upd]
  ·simp [upd,hkk,h.live k2]
 ·rintro k2 (rfl | hk2)
  ·exact Nat.le_of_eq hkd.1
  ·exact h.dep k2 hk2
 ·intro b t hb
  have hb':upd G.own w.heap.size (some (.box k)) b=some t:=hb
  rw [World.size_alloc]
  unfold upd at hb'
  split at hb'
  ·rename_i hbe;omega
  ·exact Nat.lt_succ_of_lt (h.wf b t hb')
 ·intro b k2 hb
  have hb':upd G.own w.heap.size (some (.box k)) b=some (.box k2):=hb
  unfold upd at hb'
  split at hb'
  ·rename_i hbe
   simp only [Option.some.injEq,Tag.box.injEq] at hb'
   subst hb'
   exact ⟨.inl rfl,by show upd G.β k _ k=b;simp [upd,hbe]⟩
  ·obtain ⟨h1,h2⟩:=h.wfb b k2 hb'
   exact ⟨.inr h1,by rw [← h2];exact (hl k2 h1).2.1⟩
 ·intro b k2 p hb
  have hb':upd G.own w.heap.size (some (.box k)) b=some (.at (.cell k2) p):=hb
  unfold upd at hb'
  split at hb'
  ·cases hb'
  ·exact .inr (h.wfc b k2 p hb')
 ·intro b t hb
  have hb':upd G.own w.heap.size (some (.box k)) b=some t:=hb
  unfold upd at hb'
  split at hb'
  ·rename_i hbe
   cases hb'
   subst hbe
   show k.1≤G.age _
   rw [h.fut _ (Nat.le_refl _)]
   exact Nat.le_of_eq hkd.1
  ·exact h.aged b t hb'

theorem Sim.setMem {tm:Array Value} (h:Sim d N G σ tm w) {k:Key} {cs cs':List C} (hm:σ.mem k=some cs) (hnn:cs'≠[]→cs≠[])
 (hr:∀ arr e,w.heap[G.β k]?=some (.cells arr e (0,0))→RCs w G (.cell k) [] 0 cs' (arr.toList.take cs'.length)):Sim d N G { σ with mem:=upd σ.mem k (some cs') } tm w :=
 {sz:=h.sz,env:=h.env,dep:=h.dep,wf:=h.wf,wfb:=h.wfb,wfc:=h.wfc,age:=h.age,fut:=h.fut,aged:=h.aged,jump:=h.jump
  mem:=fun k2 cs2 hk2 hn2=>by
   by_cases hkk:k2=k
   ·subst hkk
    have:upd σ.mem k2 (some cs') k2=some cs2:=hk2
    simp only [upd,if_true,Option.some.injEq] at this
    subst this
    obtain ⟨arr,e,h1,h2,h2c,_⟩:=h.mem k2 cs hm (hnn hn2)
    exact ⟨arr,e,h1,h2,h2c,hr arr e h1⟩
   ·have:upd σ.mem k (some cs') k2=some cs2:=hk2
    simp only [upd,hkk,if_false] at this
    exact h.mem k2 cs2 this hn2
  live:=fun k2=>by
   rw [h.live k2]
   show (σ.mem k2).isSome=true ↔ (upd σ.mem k (some cs') k2).isSome=true
   by_cases hkk:k2=k
   ·subst hkk;simp [upd,hm]
   ·simp [upd,hkk] }

theorem zmm {α β:Type} [DecidableEq α] (f:α→β) (x:α) (y z:β):upd (upd f x y) x z=upd f x z:=by
 funext t;unfold upd;split <;> rfl

theorem ok_loadLeave (h:Sim d N G σ a.tmps w) (hd:dst.all (· < N)=true) (t:TypeId) (x:Operand) {i:TI} (hi:ti g.P t=some i) {k:Key} {off:Nat} (hx:opnd σ.env x=.one (.ptr k off))
 {cs sg:List C} (hm:σ.mem k=some cs) (hkd:k.1=d∨k.1+1=d∧(σ.mem (d,deepK)).isSome=true) (hs:seg cs off i.size=some sg) {v:AV} (hv:mkAV i.agg sg=some v) :
 OpOK g.P d N G w a { dst,op:=.load t x,type:=ty,pos,after,guard } { σ with mem:=upd σ.mem k (some (splice cs off (sg.map C.copy))) } v:=by
 obtain ⟨r,G',h1,h2,h3,h4,h5,h6⟩:=load_core (g:=g) (ty:=ty) (pos:=pos) (after:=after) (guard:=guard) h dst t x hi hx hm hkd hs hv
 obtain ⟨hle,hsl,hsg⟩:=zhx hs
 have hl1:off+(sg.map fun _=>C.dead).length≤cs.length:=by rw [List.length_map,hsl];exact hle
 have hl2:off+(sg.map C.copy).length≤cs.length:=by rw [List.length_map,hsl];exact hle
 have hS:=h3.setMem (k:=k) (cs:=splice cs off (sg.map fun _=>C.dead)) (cs':=splice cs off (sg.map C.copy)) (by simp [upd]) (fun hz h0=>hz (List.length_eq_zero_iff.1 (by
  have:=congrArg List.length h0
  rw [zas _ _ _ hl1] at this
  rw [zas _ _ _ hl2]
  exact this))) (fun arr e ha=>by
   by_cases hz:cs=[]
   ·subst hz
    have e0:splice ([]:List C) off (sg.map C.copy)=[]:=List.length_eq_zero_iff.1 (by rw [zas _ _ _ hl2];rfl)
    rw [e0]
    exact ⟨rfl,fun j c hc=>by simp at hc⟩
   obtain ⟨arr0,e0,a1,a2,a3,a4⟩:=h.mem k cs hm hz
   have a5:w.heap[G.β k]?=some (.cells arr e (0,0)):=by rw [← h5];exact ha
   rw [a1] at a5
   cases a5
   rw [zas _ _ _ hl2]
   have hz2:splice cs off (sg.map fun _=>C.dead)≠[]:=fun h0=>hz (List.length_eq_zero_iff.1 (by have:=congrArg List.length h0;rw [zas _ _ _ hl1] at this;exact this))
   obtain ⟨arr1,e1,b1,b2,b3,b4⟩:=h3.mem k _ (by simp [upd]) hz2
   rw [ha] at b1
   cases b1
   rw [zas _ _ _ hl1] at b4
   refine ⟨by rw [zas _ _ _ hl2];exact a4.1,fun j c hj=>?_⟩
   rw [zdp _ _ _ hl2] at hj
   split at hj
   ·rename_i hin
    rw [List.getElem?_map] at hj
    cases hq:sg[j - off]? with
    | none=>rw [hq] at hj;cases hj
    | some c0 =>
     rw [hq] at hj
     cases hj
     have hc0:cs[j]?=some c0:=by
      have:=hsg (j - off)
      rw [List.length_map,hsl] at hin
      rw [← hq,this (by omega)]
      congr 1
      omega
     obtain ⟨y,hy,hr⟩:=a4.2 j c0 hc0
     exact ⟨y,hy,h6 _ _ _ _ _ _ hr⟩
   ·rename_i hout
    have:(splice cs off (sg.map fun _=>C.dead))[j]?=some c:=by
     rw [zdp _ _ _ hl1,if_neg (by rw [List.length_map] at hout ⊢; exact hout)]
     exact hj
    exact b4.2 j c this)
 rw [show upd (upd σ.mem k (some (splice cs off (sg.map fun _=>C.dead)))) k (some (splice cs off (sg.map C.copy)))=upd σ.mem k (some (splice cs off (sg.map C.copy))) from zmm _ _ _ _] at hS
 exact OpOK.mk hd h1 h2 hS h4

theorem ok_alloc (h:Sim d N G σ a.tmps w) {t:Nat} (hd:(some t).all (· < N)=true) (e:TypeId) {i:TI} (hi:ti g.P e=some i) (hk:σ.mem (d,t)=none) (htk:t≠deepK) :
 OpOK g.P d N G w a { dst:=some t,op:=.alloc e,type:=ty,pos,after,guard } { σ with mem:=upd σ.mem (d,t) (some (i.zero.map C.ofValue)) } (.one (.ptr (d,t) 0)):=by
 obtain ⟨info,dd,z,h1,_,h3,_,_,_,_,_,h8⟩:=zjn hi
 obtain ⟨G',hS,hF,hβ,_⟩:=h.newBox hk ⟨rfl,fun e=>htk (Prod.mk.inj e).2⟩ z.cells e z.cells.size rfl
 have hS':=hS.setMem (k:=(d,t)) (cs:=List.replicate z.cells.size C.dead) (cs':=i.zero.map C.ofValue) (by simp [upd]) (fun hz h0=>hz (List.length_eq_zero_iff.1 (by have:=congrArg List.length h0;rw [List.length_replicate] at this;rw [List.length_map,h8,Array.length_toList];exact this))) (fun arr e' ha=>by
  rw [hβ,zhd] at ha
  cases ha
  rw [h8,List.length_map,List.take_length]
  exact zjz _)
 rw [show upd (upd σ.mem (d,t) _) (d,t) _=upd σ.mem (d,t) (some (i.zero.map C.ofValue)) from zmm _ _ _ _] at hS'
 refine OpOK.mk (r:=.pointer (some ⟨w.heap.size,0,none⟩)) hd ?_ hF hS' fun t' ht'=>?_
 ·simp [execOp,Instr.alloc,zeroValue,typeInfo,h1,h3,newVar,newRow]
 ·exact ⟨by rw [hS'.live];simp [upd],by rw [hβ]⟩

theorem ok_box (h:Sim d N G σ a.tmps w) {t:Nat} (hd:(some t).all (· < N)=true) (e:TypeId) (x:Operand) {cs:List C} (hc:(opnd σ.env x).cells=some cs) (hk:σ.mem (d,t)=none) (htk:t≠deepK) :
 OpOK g.P d N G w a { dst:=some t,op:=.box e x,type:=ty,pos,after,guard } { env:=kil σ.env x,mem:=upd σ.mem (d,t) (some cs) } (.one (.ptr (d,t) 0)):=by
 have hsz:(a.eval x).cells.size=cs.length:=(zmk hc (h.opnd x)).1
 obtain ⟨G1,hS1,hF1,hβ1,_⟩:=h.newBox hk ⟨rfl,fun e=>htk (Prod.mk.inj e).2⟩ (a.eval x).cells e cs.length hsz
 obtain ⟨G2,hS2,hF2,hβ2,hlv2,_,_,hcs,_⟩:=hS1.takeCells (env:=a.eval) (fun _=>rfl) (fun _=>rfl) (fun _=>rfl) x (d,t) 0 (by simp [upd]) (cs:=cs) hc
 have hS3:=hS2.setMem (k:=(d,t)) (cs':=cs) (cs:=List.replicate cs.length C.dead) (by simp [upd]) (fun hz h0=>hz (List.length_eq_zero_iff.1 (by have:=congrArg List.length h0;rw [List.length_replicate] at this;exact this))) (fun arr e' ha=>by
  rw [hβ2,hβ1,zhd] at ha
  cases ha
  have htk:(a.eval x).cells.toList.take cs.length=(a.eval x).cells.toList:=by rw [← hsz,← Array.length_toList,List.take_length]
  rw [htk]
  refine ⟨by rw [Array.length_toList,hsz],fun j c hj=>?_⟩
  obtain ⟨y,hy,hr⟩:=hcs j c hj
  exact ⟨y,hy,by simpa using hr⟩)
 rw [show upd (upd σ.mem (d,t) (some (List.replicate cs.length C.dead))) (d,t) (some cs)=upd σ.mem (d,t) (some cs) from zmm _ _ _ _] at hS3
 refine OpOK.mk (r:=.pointer (some ⟨w.heap.size,0,none⟩)) hd ?_ (hF1.trans hF2) hS3 fun t' ht'=>?_
 ·simp [execOp,Instr.box,newVar,newRow]
 ·exact ⟨by rw [hS3.live];simp [upd],by rw [hβ2,hβ1]⟩

def tupT (d t i:Nat) (o':Ow) (agg:Bool):Tag→Tag
 | .at (.slot d' t') (i' :: q)=>if d'=d∧t'=t∧i'=i then .at o' (if agg then q else q.drop 1) else .at (.slot d' t') (i' :: q)
 | x=>x

theorem zpj {d:Nat} (t i:Nat) (o':Ow) (agg:Bool) (hdp:o'.dep d≤d):RenOK d (tupT d t i o' agg) where
 dp x p:=by
  cases x with
  | cell k'=>exact Nat.le_refl _
  | ret=>exact Nat.le_refl _
  | slot d' t' =>
   cases p with
   | nil=>exact Nat.le_refl _
   | cons i' q =>
    simp only [tupT]
    split
    ·rename_i hc;rw [hc.1];exact hdp
    ·exact Nat.le_refl _
 box _:=rfl
 foreign:=rfl
 at_ x p:=by
  cases x with
  | cell k'=>exact ⟨_,_,rfl⟩
  | ret=>exact ⟨_,_,rfl⟩
  | slot d' t' =>
   cases p with
   | nil=>exact ⟨_,_,rfl⟩
   | cons i' q =>
    by_cases hc:d'=d∧t'=t∧i'=i
    ·exact ⟨o',_,by simp only [tupT];rw [if_pos hc]⟩
    ·exact ⟨_,_,by simp only [tupT];rw [if_neg hc]⟩
 keep x hx:=by
  cases x with
  | foreign=>rfl
  | box k=>rfl
  | «at» o p =>
   cases o with
   | cell k'=>rfl
   | ret=>rfl
   | slot d' t' =>
    cases p with
    | nil=>rfl
    | cons i' q =>
     simp only [tupT]
     rw [if_neg]
     rintro ⟨rfl,_⟩
     exact hx (Nat.le_refl _)

theorem ok_extract (h:Sim d N G σ a.tmps w) (hd:dst.all (· < N)=true) (t i:Nat) {l:List (Bool × List C)} (hx:σ.env t=.tu l) {ag:Bool} {cs:List C} (hl:l[i]?=some (ag,cs)) {v:AV} (hv:mkAV ag cs=some v) :
 OpOK g.P d N G w a { dst,op:=.extract (.tmp t) i,type:=ty,pos,after,guard } { σ with env:=upd σ.env t (.tu (l.set i (ag,cs.map fun _=>.dead))) } v:=by
 have hra:=h.env t
 rw [hx] at hra
 obtain ⟨vs,hvs,hz,hs⟩:=hra
 obtain ⟨x,hxi,hxr⟩:=hs i ag cs hl
 have hil:i < l.length:=by
  rcases Nat.lt_or_ge i l.length with hlt | hge
  ·exact hlt
  ·rw [List.getElem?_eq_none hge] at hl;cases hl
 have hrun:(execOp a.eval { dst,op:=.extract (.tmp t) i,type:=ty,pos,after,guard }).run g.P w=.ok (.value x) w:=by
  have he:a.eval (.tmp t)=.tuple vs:=hvs
  simp [execOp,Instr.extract,he,hxi]
 have key:∀ o',o'.dep d≤d→(∀ k,o'≠.cell k)→Sim d N (Ev.ren G (tupT d t i o' ag)) { σ with env:=upd σ.env t (.tu (l.set i (ag,cs.map fun _=>.dead))) } a.tmps w:=by
  intro o' hdp ho'
  have hφ:=zpj (d:=d) t i o' ag hdp
  have h0:=h.ren hφ (upd σ.env t .dead) σ.mem (fun t2=>?_) (Sim.memSame _ fun k q=>rfl) ?_
  ·refine { h0 with env:=fun t2=>?_ }
   show RA w _ _ (upd σ.env t _ t2) _
   by_cases ht:t2=t
   ·subst ht
    simp only [upd,if_true]
    refine ⟨vs,hvs,by rw [hz,List.length_set],fun j b cs2 hj=>?_⟩
    rw [List.getElem?_set] at hj
    by_cases hji:i=j
    ·subst hji
     simp only [if_true,hil,Option.some.injEq,Prod.mk.injEq] at hj
     obtain ⟨rfl,rfl⟩:=hj
     refine ⟨x,hxi,?_⟩
     cases ag with
     | true =>
      obtain ⟨xs,hxs,hr⟩:=hxr
      exact ⟨xs,hxs,by rw [List.length_map];exact hr.1,fun j c hj=>by
       rw [List.getElem?_map] at hj
       cases hc:cs[j]? with
       | none=>rw [hc] at hj;cases hj
       | some c0=>rw [hc] at hj;cases hj;obtain ⟨y,hy,_⟩:=hr.2 j c0 hc;exact ⟨y,hy,trivial⟩⟩
     | false =>
      exact ⟨by rw [List.length_map];exact hxr.1,fun j c hj=>by
       rw [List.getElem?_map] at hj
       cases hc:cs[j]? with
       | none=>rw [hc] at hj;cases hj
       | some c0=>rw [hc] at hj;cases hj;obtain ⟨y,hy,_⟩:=hxr.2 j c0 hc;exact ⟨y,hy,trivial⟩⟩
    ·simp only [hji,if_false] at hj
     obtain ⟨y,hy,hr⟩:=hs j b cs2 hj
     have hh:∀ (p:List Nat),Hands w G w (Ev.ren G (tupT d t2 i o' ag)) (.slot d t2) ([j] ++ p) (.slot d t2) ([j] ++ p) fun _=>false:=fun p =>
      hφ.hands G w fun q=>by simp [tupT,Ne.symm hji]
     refine ⟨y,hy,?_⟩
     cases b with
     | true =>
      obtain ⟨xs,hxs,hr⟩:=hr
      exact ⟨xs,hxs,(by simpa using (hh []):Hands w G w (Ev.ren G (tupT d t2 i o' ag)) (.slot d t2) [j] (.slot d t2) [j] fun _=>false).rcs0 hr⟩
     | false=>exact (by simpa using (hh []):Hands w G w (Ev.ren G (tupT d t2 i o' ag)) (.slot d t2) [j] (.slot d t2) [j] fun _=>false).rcs0 hr
   ·have:=h0.env t2
    simpa [upd,ht] using this
  ·by_cases ht:t2=t
   ·left;simp [upd,ht]
   ·right
    refine ⟨by simp [upd,ht],fun q=>?_⟩
    cases q with
    | nil=>rfl
    | cons j q=>simp [tupT,ht]
  ·intro o p k q hq
   left
   cases o with
   | cell k3=>simp only [tupT,Tag.at.injEq,Ow.cell.injEq] at hq;exact ⟨k3,rfl,hq.1⟩
   | ret=>simp [tupT] at hq
   | slot d' t' =>
    cases p with
    | nil=>simp [tupT] at hq
    | cons j q' =>
     simp only [tupT] at hq
     split at hq
     ·simp only [Tag.at.injEq] at hq;exact absurd hq.1 (ho' k)
     ·cases hq
 have hval:∀ o',o'.dep d≤d→RA w (Ev.ren G (tupT d t i o' ag)) o' v x:=by
  intro o' hdp
  have hφ:=zpj (d:=d) t i o' ag hdp
  cases ag with
  | true =>
   obtain ⟨xs,rfl,hr⟩:=hxr
   simp only [mkAV,if_true,Option.some.injEq] at hv
   subst hv
   exact ⟨xs,rfl,(hφ.hands G w (o:=.slot d t) (p:=[i]) (p':=[]) fun q=>by simp [tupT]).rcs0 hr⟩
  | false =>
   simp only [mkAV,Bool.false_eq_true,if_false] at hv
   split at hv
   ·rename_i c
    cases hv
    obtain ⟨y,hy,hr⟩:=zid hxr
    cases hy
    exact (hφ.hands G w (o:=.slot d t) (p:=[i] ++ [0]) (p':=[]) fun q=>by simp [tupT]).rc0 hr
   ·cases hv
 cases dst with
 | none=>exact OpOK.mk hd hrun ((zpj t i .ret ag (Nat.le_refl d)).frm G w) (key .ret (Nat.le_refl d) (by simp)) fun _ ht=>by cases ht
 | some t'=>exact OpOK.mk hd hrun ((zpj t i (.slot d t') ag (Nat.le_refl d)).frm G w) (key (.slot d t') (Nat.le_refl d) (by simp)) fun _ ht=>by cases ht;exact hval _ (Nat.le_refl d)

end
end Go.Ev


namespace Go.Ev
section
variable {g:Cfg} {d N:Nat} {G:Gh} {σ:St} {w:World} {a:Act} {dst:Option Nat} {ty:TypeId} {pos:String} {after:Array Edge} {guard:Option (Nat × Bool)}

theorem RDs_part {o o':Ow} {m:Md} {p p':List Nat} {b off:Nat} {cs:List D} (hm:m.isOwn=false) (h:RDs w G o m p b off 0 cs) (k size:Nat) :
 RDs w G o' m p' b (off+k) 0 ((cs.drop k).take size) :=
 zlb fun j x hj=>by
  rw [List.getElem?_take] at hj
  split at hj
  ·rw [List.getElem?_drop] at hj
   obtain ⟨v,hv,hr⟩:=zqw h (k+j) x hj
   refine ⟨v,?_,zmb hm hr⟩
   rw [← hv];congr 2;omega
  ·cases hj

theorem run_sliceOp {P:Program} {t e:TypeId} {i ei:TI} (hi:ti P t=some i) (he:i.elem=some e) (hei:ti P e=some ei) (ad:Option Addr) (n cap:Nat) (lo hi':Option Value) (l hh:Int)
 (hlo:(lo=none∧l=0)∨lo=some (.int .i64 l)) (hhi:(hi'=none∧hh=n)∨hi'=some (.int .i64 hh)) (h0:0≤l) (h1:l≤hh) (h2:hh≤n) (h3:n≤cap) :
 (Instr.sliceAt t (.slice ad n cap) lo hi' none).run P w=.ok (sliced ad l.toNat hh.toNat cap ei.size) w:=by
 have hu:=zhp hi he
 have hel:P.elem t=e:=by simp [Program.elem,hu]
 have ht:P.underlying t=some (.slice (P.elem t)):=by rw [hel];exact hu
 have hsz:=zih hei w
 rw [run_sliceAt_slice w t _ lo hi' none ht]
 rcases hlo with ⟨rfl,rfl⟩ | rfl <;> rcases hhi with ⟨rfl,rfl⟩ | rfl
 ·rw [run_slice_all w t ad n cap ht,hel,hsz];simp
 ·rw [run_slice_h w t ad n cap ht _ _ (by omega) (by omega),hel,hsz];simp
 ·rw [run_slice_l w t ad n cap ht _ _ h0 (by omega),hel,hsz];simp
 ·rw [run_slice_lh w t ad n cap ht _ _ _ _ h0 h1 (by omega),hel,hsz];simp

theorem ok_slice (h:Sim d N G σ a.tmps w) (hd:dst.all (· < N)=true) (t:TypeId) (x:Operand) (lo hi':Option Operand) {i ei:TI} {e:Nat} (hi:ti g.P t=some i) (he:i.elem=some e) (hei:ti g.P e=some ei)
 {m:Md} {n:Nat} {cs:List D} (hx:opnd σ.env x=.one (.l m n cs)) {l hh:Int} (hl:loOf lo σ.env=some l) (hh':hiOf hi' σ.env n=some hh)
 (hb:0≤l∧l≤hh∧hh≤n∧cs.length=n * ei.size) :
 OpOK g.P d N G w a { dst,op:=.slice t x lo hi' none,type:=ty,pos,after,guard } σ (.one (.l m.copy (hh - l).toNat ((cs.drop (l.toNat * ei.size)).take ((hh - l).toNat * ei.size)))):=by
 have hv:=h.opnd x
 rw [hx] at hv
 have hv1:RD w G _ m [] (.sl n cs) (a.eval x):=hv
 obtain ⟨ad,cap,hva,hnc⟩:∃ ad cap,a.eval x=.slice ad n cap∧n≤cap:=by
  have hv2:=hv1
  rw [RD] at hv2
  rcases hv2 with ⟨_,h0,ad,cap,hv',_⟩|⟨_,_,b,off,cap,hv',hc,_⟩
  ·exact ⟨ad,cap,by rw [hv',h0],by omega⟩
  ·exact ⟨_,cap,hv',hc⟩
 have hrun:(execOp a.eval { dst,op:=.slice t x lo hi' none,type:=ty,pos,after,guard }).run g.P w=.ok (.value (sliced ad l.toNat hh.toNat cap ei.size)) w:=by
  simp only [execOp,hva]
  rw [Sem.run_bind]
  rw [show Option.map a.eval none=none from rfl]
  rw [run_sliceOp hi he hei ad n cap (lo.map a.eval) (hi'.map a.eval) l hh ?_ ?_ hb.1 hb.2.1 hb.2.2.1 hnc]
  ·rfl
  ·cases lo with
   | none=>left;simp only [loOf,Option.some.injEq] at hl;exact ⟨rfl,hl.symm⟩
   | some y=>right;simp only [loOf] at hl;rw [Option.map_some,zgz hl (h.opnd y)]
  ·cases hi' with
   | none=>left;simp only [hiOf,Option.some.injEq] at hh';exact ⟨rfl,hh'.symm⟩
   | some y=>right;simp only [hiOf] at hh';rw [Option.map_some,zgz hh' (h.opnd y)]
 refine OpOK.mk hd hrun (Frm.refl _ _ _) h fun t' _=>?_
 show RD w G _ m.copy [] (.sl _ _) _
 have hlen:((cs.drop (l.toNat * ei.size)).take ((hh - l).toNat * ei.size)).length=(hh - l).toNat * ei.size:=by
  rw [List.length_take,List.length_drop,hb.2.2.2]
  have:(hh - l).toNat * ei.size≤n * ei.size - l.toNat * ei.size:=by
   rw [← Nat.sub_mul]
   exact Nat.mul_le_mul_right _ (by omega)
  omega
 have hsub:hh.toNat - l.toNat=(hh - l).toNat:=by omega
 rw [RD]
 by_cases hz:(cs.drop (l.toNat * ei.size)).take ((hh - l).toNat * ei.size)=[]
 ·left
  refine ⟨hz,?_,?_⟩
  ·rw [hz] at hlen
   by_cases hne:cs=[]
   ·rw [hne] at hv1
    rw [RD] at hv1
    rcases hv1 with ⟨_,h0,_⟩|⟨h1,_⟩
    ·omega
    ·exact absurd rfl h1
   ·have hpos:0 < ei.size:=by
     rcases Nat.eq_zero_or_pos ei.size with hz0 | hp
     ·exfalso;apply hne;apply List.eq_nil_of_length_eq_zero;rw [hb.2.2.2,hz0,Nat.mul_zero]
     ·exact hp
    have:(hh - l).toNat * ei.size=0:=by rw [← hlen];rfl
    rcases Nat.mul_eq_zero.1 this with h | h
    ·exact h
    ·omega
  ·have hz2:(hh - l).toNat=0∨ei.size=0:=by rw [hz] at hlen;exact Nat.mul_eq_zero.1 hlen.symm
   have hn0:(hh - l).toNat=0:=by
    rcases hz2 with h | h
    ·exact h
    ·rw [RD] at hv1
     rcases hv1 with ⟨_,h0,_⟩|⟨h1,_⟩
     ·omega
     ·exfalso;apply h1;apply List.eq_nil_of_length_eq_zero;rw [hb.2.2.2,h,Nat.mul_zero]
   exact ⟨_,_,by unfold sliced;rw [hsub,hn0],by simp [Md.copy_own]⟩
 ·right
  have hcs:cs≠[]:=by rintro rfl;simp at hz
  have hpos:0 < (hh - l).toNat:=by
   rcases Nat.eq_zero_or_pos (hh - l).toNat with h0 | hp
   ·exfalso;apply hz;rw [h0,Nat.zero_mul,List.take_zero]
   ·exact hp
  rw [RD] at hv1
  rcases hv1 with ⟨h0,_⟩|⟨_,hn,b,off,cap',hv',hc',hno,hs⟩
  ·exact absurd h0 hcs
  ·rw [hva] at hv'
   simp only [Value.slice.injEq,true_and] at hv'
   obtain ⟨rfl,rfl⟩:=hv'
   refine ⟨hz,hpos,b,off+l.toNat * ei.size,cap - l.toNat,?_,by omega,?_,?_⟩
   ·unfold sliced
    rw [if_neg (by omega),hsub,Option.map_some,Addr.add_lit]
   ·have hu:=zgb hno
    have hle:off+l.toNat * ei.size+((cs.drop (l.toNat * ei.size)).take ((hh - l).toNat * ei.size)).length≤G.use b:=by
     rw [hlen]
     have h3:l.toNat * ei.size+(hh - l).toNat * ei.size≤n * ei.size:=by
      rw [← Nat.add_mul];exact Nat.mul_le_mul_right _ (by omega)
     rw [hb.2.2.2] at hu
     omega
    cases m with
    | own=>exact ⟨zfo hno,hle⟩
    | top=>exact ⟨zfo hno,hle⟩
    | shr=>exact ⟨hno.1,hle⟩
    | bor=>exact ⟨hno.1,hle⟩
   ·rw [Md.copy_elem]
    have:=RDs_copy (o':=Ow.slot d t') (p':=[]) hs
    rw [Md.copy_elem] at this
    exact RDs_part (Md.copy_own m) this _ _

end
end Go.Ev


namespace Go.Ev
section
variable {g:Cfg} {d N:Nat} {G:Gh} {σ:St} {w:World} {a:Act} {dst:Option Nat} {ty:TypeId} {pos:String} {after:Array Edge} {guard:Option (Nat × Bool)}

def Rel (Q:Nat→C→Value→Prop) (cs:List C) (vs:List Value):Prop:=vs.length=cs.length∧∀ (j:Nat) c,cs[j]?=some c→∃ y,vs[j]?=some y∧Q j c y

theorem foldl_set (off:Nat):∀ (l:List Value) (i:Nat) (arr:Array Value),
 ((l.zipIdx i).foldl (fun (cs:Array Value) (x:Value × Nat)=>cs.setIfInBounds (off+x.2) x.1) arr).size=arr.size ∧
 ∀ k,((l.zipIdx i).foldl (fun (cs:Array Value) (x:Value × Nat)=>cs.setIfInBounds (off+x.2) x.1) arr)[k]?=if off+i≤k∧k < off+i+l.length∧k < arr.size then l[k - (off+i)]? else arr[k]?
 | [],i,arr=>⟨rfl,fun k=>by rw [if_neg (by simp;omega)];rfl⟩
 | x :: l,i,arr=>by
  obtain ⟨h1,h2⟩:=foldl_set off l (i+1) (arr.setIfInBounds (off+i) x)
  simp only [List.zipIdx_cons,List.foldl_cons]
  refine ⟨by rw [h1,Array.size_setIfInBounds],fun k=>?_⟩
  rw [h2 k,Array.size_setIfInBounds,Array.getElem?_setIfInBounds]
  by_cases hk:k=off+i
  ·subst hk
   rw [if_neg (by omega)]
   simp only [if_true]
   by_cases hs:off+i < arr.size
   ·rw [if_pos hs,if_pos ⟨Nat.le_refl _,by simp,hs⟩]
    simp
   ·rw [if_neg hs,if_neg (fun hh=>hs hh.2.2)]
    simp [hs]
  ·simp only [Ne.symm hk,if_false]
   by_cases hc:off+(i+1)≤k∧k < off+(i+1)+l.length∧k < arr.size
   ·rw [if_pos hc,if_pos ⟨by omega,by simp;omega,hc.2.2⟩]
    rw [show k - (off+i)=(k - (off+(i+1)))+1 by omega,List.getElem?_cons_succ]
   ·rw [if_neg hc,if_neg (by simp;omega)]

theorem fill_ok {Q:Nat→C→Value→Prop} {place:Nat→Option (Nat × Nat)}:∀ (ps:List (Nat × List C)) (vs:List (Nat × Value)) (cs:List C) (arr:Array Value) (cs':List C),
 ps.length=vs.length→(∀ (i:Nat) p v,ps[i]?=some p→vs[i]?=some v→p.1=v.1∧v.2.cells.size=p.2.length∧∀ off size,place p.1=some (off,size)→∀ (j:Nat) c,p.2[j]?=some c→∃ y,v.2.cells.toList[j]?=some y∧Q (off+j) c y) →
 Rel Q cs arr.toList→fillC place cs ps=some cs'→∃ arr',Instr.fill place arr vs=some arr'∧Rel Q cs' arr'.toList
 | [],[],cs,arr,cs',_,_,hr,hf=>by
  simp only [fillC,Option.some.injEq] at hf
  subst hf
  exact ⟨arr,rfl,hr⟩
 | p :: ps,[],_,_,_,hl,_,_,_=>by simp at hl
 | [],v :: vs,_,_,_,hl,_,_,_=>by simp at hl
 | (i,pc) :: ps,(i',v) :: vs,cs,arr,cs',hl,hp,hr,hf=>by
  obtain ⟨h1,h2,h3⟩:=hp 0 _ _ rfl rfl
  have h1':i=i':=h1
  subst h1'
  simp only [fillC] at hf
  simp only [Instr.fill]
  cases hpl:place i with
  | none=>rw [hpl] at hf;cases hf
  | some os =>
   obtain ⟨off,size⟩:=os
   rw [hpl] at hf
   simp only at hf
   split at hf
   ·rename_i hsz
    have hvs:v.cells.size=size:=by rw [h2];exact hsz.1
    have has:arr.size=cs.length:=by have:=hr.1;rwa [Array.length_toList] at this
    have hcond:¬ ((v.cells.size≠size || decide (off+v.cells.size > arr.size))=true):=by
     simp only [hvs,ne_eq,not_true_eq_false,decide_false,Bool.false_or,decide_eq_true_eq]
     omega
    simp only
    rw [if_neg hcond]
    have hsp:off+pc.length≤cs.length:=by rw [hsz.1];exact hsz.2
    obtain ⟨g1,g2⟩:=foldl_set off v.cells.toList 0 arr
    have hz:∀ (x:Array Value),x.zipIdx.foldl (fun (cs:Array Value) (x:Value × Nat)=>cs.setIfInBounds (off+x.2) x.1) arr=(x.toList.zipIdx).foldl (fun (cs:Array Value) (x:Value × Nat)=>cs.setIfInBounds (off+x.2) x.1) arr:=by
     intro x
     rw [← Array.foldl_toList,Array.toList_zipIdx]
    refine fill_ok ps vs (splice cs off pc) _ cs' (by simpa using hl) (fun k p' v' hk hk'=>hp (k+1) p' v' hk hk') ?_ hf
    refine ⟨?_,fun j c hj=>?_⟩
    ·rw [Array.length_toList,zas _ _ _ hsp]
     have:=hz v.cells
     show (v.cells.zipIdx.foldl _ arr).size=_
     rw [this,g1,has]
    ·have hget:(v.cells.zipIdx.foldl (fun (cs:Array Value) (x:Value × Nat)=>cs.setIfInBounds (off+x.2) x.1) arr).toList[j]?=if off+0≤j∧j < off+0+v.cells.toList.length∧j < arr.size then v.cells.toList[j - (off+0)]? else arr[j]?:=by
      rw [Array.getElem?_toList,hz,g2]
     rw [zdp _ _ _ hsp] at hj
     show ∃ y,(v.cells.zipIdx.foldl (fun (cs:Array Value) (x:Value × Nat)=>cs.setIfInBounds (off+x.2) x.1) arr).toList[j]?=some y∧Q j c y
     rw [hget]
     split at hj
     ·rename_i hin
      rw [if_pos ⟨by omega,by rw [Array.length_toList,hvs];omega,by omega⟩]
      obtain ⟨y,hy,hq⟩:=h3 off size hpl (j - off) c hj
      refine ⟨y,hy,?_⟩
      rwa [show off+(j - off)=j by omega] at hq
     ·rename_i hin
      rw [if_neg (by rw [Array.length_toList,hvs];omega)]
      obtain ⟨y,hy,hq⟩:=hr.2 j c hj
      exact ⟨y,by rw [← Array.getElem?_toList];exact hy,hq⟩
   ·cases hf

def partT (d:Nat) (tab:List (Nat × (Nat × Bool))) (o':Ow):Tag→Tag
 | .at (.slot d' t') q=>if d'=d then (match lookN t' tab with
  | some (off,true)=>(match q with | []=>.at .ret [] | j :: q'=>.at o' ((off+j) :: q'))
  | some (off,false)=>.at o' (off :: q)
  | none=>.at (.slot d' t') q) else .at (.slot d' t') q
 | x=>x

theorem partT_ok {d:Nat} (tab:List (Nat × (Nat × Bool))) (o':Ow) (hdp:o'.dep d≤d):RenOK d (partT d tab o') where
 dp x p:=by
  cases x with
  | cell k'=>exact Nat.le_refl _
  | ret=>exact Nat.le_refl _
  | slot d' t' =>
   simp only [partT]
   split
   ·rename_i hc
    subst hc
    split
    ·split
     ·exact Nat.le_refl _
     ·exact hdp
    ·exact hdp
    ·exact Nat.le_refl _
   ·exact Nat.le_refl _
 box _:=rfl
 foreign:=rfl
 at_ x p:=by
  cases x with
  | cell k'=>exact ⟨_,_,rfl⟩
  | ret=>exact ⟨_,_,rfl⟩
  | slot d' t' =>
   simp only [partT]
   split
   ·split
    ·split <;> exact ⟨_,_,rfl⟩
    ·exact ⟨_,_,rfl⟩
    ·exact ⟨_,_,rfl⟩
   ·exact ⟨_,_,rfl⟩
 keep x hx:=by
  cases x with
  | foreign=>rfl
  | box k=>rfl
  | «at» o p =>
   cases o with
   | cell k'=>rfl
   | ret=>rfl
   | slot d' t' =>
    simp only [partT]
    rw [if_neg]
    rintro rfl
    exact hx (Nat.le_refl _)

theorem zoh:tmpsOf []=[]:=rfl
theorem zhj (t:Nat) (xs:List Operand):tmpsOf (.tmp t :: xs)=t :: tmpsOf xs:=rfl
theorem tmpsOf_const (v:Value) (xs:List Operand):tmpsOf (.const v :: xs)=tmpsOf xs:=rfl
theorem zpk (v:Nat) (xs:List Operand):tmpsOf (.global v :: xs)=tmpsOf xs:=rfl
theorem tmpsOf_func (v:Nat) (xs:List Operand):tmpsOf (.func v :: xs)=tmpsOf xs:=rfl

theorem zku (env:Nat→AV):∀ (ps:List (Nat × Operand)) (t:Nat),(ps.foldl (fun e p=>kil e p.2) env) t=if t∈tmpsOf (ps.map (·.2)) then .dead else env t
 | [],t=>by simp [zoh]
 | (i,x) :: ps,t=>by
  simp only [List.foldl_cons,List.map_cons]
  rw [zku]
  cases x with
  | tmp u =>
   simp only [zhj,List.mem_cons,kil,upd]
   by_cases h1:t∈tmpsOf (ps.map (·.2))
   ·rw [if_pos h1,if_pos (.inr h1)]
   ·by_cases h2:t=u
    ·rw [if_neg h1,if_pos h2,if_pos (.inl h2)]
    ·rw [if_neg h1,if_neg h2,if_neg (fun hh=>hh.elim h2 h1)]
  | const v=>rw [tmpsOf_const];rfl
  | global v=>rw [zpk];rfl
  | func v=>rw [tmpsOf_func];rfl

def tabOf (place:Nat→Option (Nat × Nat)) (env:Nat→AV):List (Nat × Operand)→List (Nat × (Nat × Bool))
 | []=>[]
 | (i,x) :: ps=>match x,place i with
  | .tmp t,some (off,_)=>(t,(off,isAgV (env t))) :: tabOf place env ps
  | _,_=>tabOf place env ps

theorem ziw (place:Nat→Option (Nat × Nat)) (env:Nat→AV):∀ (ps:List (Nat × Operand)) (t:Nat),t ∉ tmpsOf (ps.map (·.2))→lookN t (tabOf place env ps)=none
 | [],t,_=>rfl
 | (i,x) :: ps,t,h=>by
  cases x with
  | tmp u =>
   simp only [List.map_cons,zhj,List.mem_cons,not_or] at h
   simp only [tabOf]
   split
   ·rename_i t' off s heq1 heq2
    cases heq1
    simp only [lookN,Ne.symm h.1,if_false]
    exact ziw place env ps t h.2
   ·exact ziw place env ps t h.2
  | const v=>exact ziw place env ps t h
  | global v=>exact ziw place env ps t h
  | func v=>exact ziw place env ps t h

theorem zkc (place:Nat→Option (Nat × Nat)) (env:Nat→AV):∀ (ps:List (Nat × Operand)) (j i t off s:Nat),nodup (tmpsOf (ps.map (·.2)))=true→ps[j]?=some (i,.tmp t)→place i=some (off,s) →
 lookN t (tabOf place env ps)=some (off,isAgV (env t))
 | [],j,i,t,off,s,_,h,_=>by simp at h
 | (i',x) :: ps,0,i,t,off,s,_,h,hp=>by
  simp only [List.getElem?_cons_zero,Option.some.injEq,Prod.mk.injEq] at h
  obtain ⟨rfl,rfl⟩:=h
  simp [tabOf,hp,lookN]
 | (i',x) :: ps,j+1,i,t,off,s,hn,h,hp=>by
  rw [List.getElem?_cons_succ] at h
  have ht:t∈tmpsOf (ps.map (·.2)):=by
   have:=List.mem_of_getElem? h
   exact List.mem_filterMap.2 ⟨.tmp t,List.mem_map.2 ⟨_,this,rfl⟩,rfl⟩
  cases x with
  | tmp u =>
   simp only [List.map_cons,zhj,nodup,Bool.and_eq_true,Bool.not_eq_true',List.contains_eq_mem,decide_eq_false_iff_not] at hn
   have hne:u≠t:=fun e=>hn.1 (e ▸ ht)
   have ih:=zkc place env ps j i t off s hn.2 h hp
   simp only [tabOf]
   split
   ·rename_i t' off' s' heq1 heq2
    cases heq1
    simp only [lookN,hne,if_false]
    exact ih
   ·exact ih
  | const v=>exact zkc place env ps j i t off s hn h hp
  | global v=>exact zkc place env ps j i t off s hn h hp
  | func v=>exact zkc place env ps j i t off s hn h hp

theorem zhi {o o':Ow} {p p':List Nat} {u y:Value} (h:RC w G o p (C.ofValue u) y):RC w G o' p' (C.ofValue u) y:=by
 unfold C.ofValue at h ⊢
 split
 ·rename_i hs;rw [if_pos hs] at h;exact h
 ·rename_i hs
  rw [if_neg hs] at h
  split
  ·have hr':RD w G _ .own _ (.sl 0 []) y:=h
   show RD w G _ .own _ (.sl 0 []) y
   rw [RD] at hr' ⊢
   rcases hr' with hr' | ⟨h1,_⟩
   ·exact .inl hr'
   ·exact absurd rfl h1
  ·exact trivial

theorem zqc {v:Value} {cs:List C} (h:(AV.ofValue v).cells=some cs) {j:Nat} {c:C} (hj:cs[j]?=some c):∃ u,c=C.ofValue u:=by
 unfold AV.ofValue at h
 split at h
 ·simp only [AV.cells,Option.some.injEq] at h
  subst h
  rw [List.getElem?_map] at hj
  cases hq:(Array.toList _)[j]? with
  | none=>rw [hq] at hj;cases hj
  | some u=>rw [hq] at hj;cases hj;exact ⟨u,rfl⟩
 ·have hd:cs=[C.ofValue v]:=by
   revert h
   cases C.ofValue v <;> simp [AV.cells] <;> intro h <;> exact h.symm
  subst hd
  cases j with
  | zero=>cases hj;exact ⟨v,rfl⟩
  | succ j=>simp at hj

theorem sim_parts (h:Sim d N G σ a.tmps w) (place:Nat→Option (Nat × Nat)) (parts:List (Nat × Operand)) (hn:nodup (tmpsOf (parts.map (·.2)))=true) {ps:List (Nat × List C)}
 (hps:(parts.mapM fun p=>(opnd σ.env p.2).cells.map fun cs=>(p.1,cs))=some ps) (t':Nat) {base:List C} {vals:Array Value} (hb:∀ G',Rel (fun j c v=>RC w G' (.slot d t') [j] c v) base vals.toList)
 {cs:List C} (hf:fillC place base ps=some cs) :
 ∃ G',Sim d N G' { σ with env:=parts.foldl (fun e p=>kil e p.2) σ.env } a.tmps w∧Frm d G w G' w∧∃ arr,Instr.fill place vals (parts.map fun p=>(p.1,a.eval p.2))=some arr ∧
  Rel (fun j c v=>RC w G' (.slot d t') [j] c v) cs arr.toList:=by
 have hφ:=partT_ok (d:=d) (tabOf place σ.env parts) (.slot d t') (Nat.le_refl d)
 refine ⟨Ev.ren G (partT d (tabOf place σ.env parts) (.slot d t')),h.ren hφ _ _ (fun t2=>?_) (Sim.memSame _ fun k q=>rfl) ?_,hφ.frm G w,?_⟩
 ·rw [zku]
  by_cases ht:t2∈tmpsOf (parts.map (·.2))
  ·left;rw [if_pos ht]
  ·right
   refine ⟨by rw [if_neg ht],fun q=>?_⟩
   simp only [partT,if_true]
   rw [ziw place σ.env parts t2 ht]
 ·intro o p k q hq
  left
  cases o with
  | cell k3=>simp only [partT,Tag.at.injEq,Ow.cell.injEq] at hq;exact ⟨k3,rfl,hq.1⟩
  | ret=>simp [partT] at hq
  | slot d' t2 =>
   simp only [partT] at hq
   split at hq
   ·split at hq
    ·split at hq <;> simp at hq
    ·simp at hq
    ·simp at hq
   ·simp at hq
 ·have hlen:ps.length=parts.length:=by
   clear hf hφ
   induction parts generalizing ps with
   | nil=>simp at hps;subst hps;rfl
   | cons p parts ih =>
    have hn':nodup (tmpsOf (parts.map (·.2)))=true:=by
     obtain ⟨pi,px⟩:=p
     cases px with
     | tmp u=>simp only [List.map_cons,zhj,nodup,Bool.and_eq_true] at hn;exact hn.2
     | const v=>exact hn
     | global v=>exact hn
     | func v=>exact hn
    rw [List.mapM_cons] at hps
    cases hc:(opnd σ.env p.2).cells with
    | none=>rw [hc] at hps;simp at hps
    | some cs0 =>
     rw [hc] at hps
     simp only [Option.map_some,bind,pure,Option.bind] at hps
     split at hps
     ·cases hps
     ·rename_i ps0 hps0
      cases hps
      have:=ih hn' hps0
      simp [this]
  have hget:∀ (i:Nat) p,parts[i]?=some p→∃ cs0,(opnd σ.env p.2).cells=some cs0∧ps[i]?=some (p.1,cs0):=by
   clear hf hlen hn
   clear hφ
   induction parts generalizing ps with
   | nil=>intro i p hp;simp at hp
   | cons p0 parts ih =>
    rw [List.mapM_cons] at hps
    cases hc:(opnd σ.env p0.2).cells with
    | none=>rw [hc] at hps;simp at hps
    | some cs0 =>
     rw [hc] at hps
     simp only [Option.map_some,bind,pure,Option.bind] at hps
     split at hps
     ·cases hps
     ·rename_i ps0 hps0
      cases hps
      intro i p hp
      cases i with
      | zero=>cases hp;exact ⟨cs0,hc,rfl⟩
      | succ i=>exact ih hps0 i p hp
  refine fill_ok ps _ base vals cs (by rw [hlen,List.length_map]) (fun i p v hp hv=>?_) (hb _) hf
  rw [List.getElem?_map] at hv
  cases hpi:parts[i]? with
  | none=>rw [hpi] at hv;cases hv
  | some p0 =>
   rw [hpi] at hv
   cases hv
   obtain ⟨cs0,hc0,hps0⟩:=hget i p0 hpi
   rw [hps0] at hp
   cases hp
   have hra:=zmk hc0 (h.opnd p0.2)
   refine ⟨rfl,hra.1,fun off size hpl j c hj=>?_⟩
   obtain ⟨y,hy,hr⟩:=hra.2 j c hj
   refine ⟨y,hy,?_⟩
   cases hx:p0.2 with
   | tmp t =>
    rw [hx] at hr hc0
    have htab:=zkc place σ.env parts i p0.1 t off size hn (by rw [hpi];congr 1;exact Prod.ext rfl hx) hpl
    refine (hφ.hands G w (o:=.slot d t) (o':=.slot d t') (p:=if isAgV (σ.env t) then [j] else []) (p':=[off+j]) fun q=>?_).rc0 hr
    simp only [partT,if_true,htab]
    cases hag:isAgV (σ.env t) with
    | true=>simp
    | false =>
     have hj0:j=0:=by
      have hl:cs0.length=1:=by
       have hc':(σ.env t).cells=some cs0:=hc0
       cases hxx:σ.env t with
       | one c0=>rw [hxx] at hc';cases c0 <;> simp [AV.cells] at hc' <;> (rw [← hc'];rfl)
       | ag l=>rw [hxx] at hag;simp [isAgV] at hag
       | tu l=>rw [hxx] at hc';simp [AV.cells] at hc'
      rcases Nat.lt_or_ge j cs0.length with hlt | hge
      ·omega
      ·rw [List.getElem?_eq_none hge] at hj;cases hj
     subst hj0
     simp
   | const v =>
    rw [hx] at hr hc0
    obtain ⟨u,rfl⟩:=zqc hc0 hj
    have hrc:RC w G (.slot d t') [off+j] (C.ofValue u) y:=zhi hr
    exact zhi ((hφ.hands G w (o:=.ret) (o':=.ret) (p:=[]) (p':=[]) fun q=>rfl).rc0 (zhi hrc))
   | global v=>rw [hx] at hc0;simp [opnd,AV.cells] at hc0
   | func k =>
    rw [hx] at hc0
    simp only [opnd,AV.cells,Option.some.injEq] at hc0
    subst hc0
    rw [hx] at hr
    cases j with
    | zero =>
     cases hj
     obtain ⟨h1,vs,h2,h3⟩:=hr
     exact ⟨fun c hc=>(List.not_mem_nil hc).elim,vs,h2,h3⟩
    | succ j=>simp at hj

end
end Go.Ev

