import Derived.Test.YtenalemhbjojeaaGreatDoorEvA11
import Derived.Test.YtenalemhbjojeaaGreatDoorEvA10
import Derived.Test.YtenalemhbjojeaaGreatDoorProg
import Derived.KernelRfl
import Derived.Shelf.Strings.OnBuilder
import Derived.Shelf.Strconv.Itoa3
import Derived.WalkKit
import Derived.Test.YtenalemhbjojeaaGreatDoorEvA8
import Derived.Deep.LoopGhost
import Derived.Lib.Walk
import Derived.Lib.AppendStr
import Derived.Laws.IdiomStrings
import Derived.Laws.BytesArg
import Derived.IntWalk
import Derived.Below
import Derived.Shelf.Spec.SlicesInsertGrow
import Derived.Test.YtenalemhbjojeaaGreatDoorEvA6
import Derived.Lib.SliceRun
import Derived.Laws.OwnMore
import Derived.Lib.AppendZerosOnto
import Derived.Test.YtenalemhbjojeaaGreatDoorEvA7
import Derived.Deep.RegionLaw
import Derived.Shelf.RegionOpenPlain
import Derived.Lib.SlicesDelete
import Derived.Laws.Rows
import Derived.Test.YtenalemhbjojeaaGreatDoorEvA9
set_option linter.unusedSimpArgs false
set_option linter.unusedVariables false
set_option linter.unnecessarySimpa false
noncomputable section
namespace Go.Ev
open Wf (wf)
open Sm (sm lg)

def gtK (k:ByteArray) (y:TStructure):Bool:=gtT (keyF y) k
def insK (x:TStructure) (k:ByteArray):List TStructure→List TStructure
 | []=>[x]
 | y :: r=>if gtK k y=true then x :: y :: r else y :: insK x k r
def hasK (k:ByteArray) (l:List TStructure):Bool:=l.any fun y=>eqS (keyF y) k
def addF (set:List TStructure) (s:TStructure):List TStructure:=if hasK (keyF (blurF s)) set=true then set else insK (blurF s) (keyF (blurF s)) set
structure okSt (set:List TStructure):Prop where
 l:set.length≤3000000
 e:∀ x∈set,sm x
theorem insK_any (x:TStructure) (k:ByteArray):∀ (l r:List TStructure),l.any (gtK k)=true→insK x k (l ++ r)=insK x k l ++ r
 | [],_,h=>by cases h
 | y :: l,r,h=>by
  rw [List.cons_append,insK,insK]
  split
  ·rfl
  ·rename_i hn
   rw [List.any_cons,Bool.or_eq_true] at h
   rw [insK_any x k l r (h.resolve_left hn)]
   rfl
theorem zpc (x:TStructure) (k:ByteArray):∀ (l r:List TStructure),l.any (gtK k)=false→insK x k (l ++ r)=l ++ insK x k r
 | [],_,_=>rfl
 | y :: l,r,h=>by
  rw [List.any_cons,Bool.or_eq_false_iff] at h
  rw [List.cons_append,insK,if_neg (by rw [h.1];simp),zpc x k l r h.2]
  rfl
theorem zru (x:TStructure) (k:ByteArray):∀ l:List TStructure,(insK x k l).length=l.length+1
 | []=>rfl
 | y :: r=>by
  rw [insK]
  split
  ·rfl
  ·rw [List.length_cons,zru x k r];rfl
theorem insK_mem {x y:TStructure} {k:ByteArray}:∀ {l:List TStructure},y∈insK x k l→y=x∨y∈l
 | [],h=>by
  rw [insK,List.mem_singleton] at h
  exact .inl h
 | z :: r,h=>by
  rw [insK] at h
  split at h
  ·rcases List.mem_cons.1 h with h | h
   ·exact .inl h
   ·exact .inr h
  ·rcases List.mem_cons.1 h with h | h
   ·exact .inr (by simp [h])
   ·rcases insK_mem h with h | h
    ·exact .inl h
    ·exact .inr (by simp [h])
theorem insK_at (x:TStructure) (k:ByteArray) (l:List TStructure):insK x k l=match l.findIdx? (gtK k) with | some i=>l.take i ++ x :: l.drop i | none=>l ++ [x]:=by
 induction l with
 | nil=>rfl
 | cons y r ih =>
  rw [insK,List.findIdx?_cons]
  by_cases h:gtK k y=true
  ·rw [if_pos h,if_pos h];rfl
  ·rw [if_neg h,if_neg h,ih]
   cases r.findIdx? (gtK k) with
   | none=>rfl
   | some i=>rfl
theorem addF_ok {set:List TStructure} {s:TStructure} (h:okSt set) (hs:sm s):(addF set s).length≤set.length+1∧∀ x∈addF set s,sm x:=by
 unfold addF
 split
 ·exact ⟨by omega,h.e⟩
 ·refine ⟨by rw [zru];omega,fun x hx=>?_⟩
  rcases insK_mem hx with rfl | hx
  ·exact zre hs
  ·exact h.e x hx
theorem own_set {set:List TStructure} (h:okSt set):zff set=some set:=by
 have hl:=h.l
 unfold zff
 refine Tot.eq (Tot.bind (P:=(· = set)) (Tot.loop (fun k q=>q=(set.take k,(k:Int))) set.length rfl fun k q hI hk=>?_) fun r hr=>by subst hr;exact Tot.ret rfl)
 subst hI
 simp only [ltI,zai]
 by_cases hlt:k < set.length
 ·rw [if_pos (by omega),zcn,List.getElem?_eq_getElem hlt,Option.bind_some,impl_owns _ (zfk (h.e _ (List.getElem_mem hlt))),Option.bind_some,List.length_take,List.length_singleton,zau (by omega) (by omega),Option.bind_some,zam (by omega) (by omega)]
  exact Tot.ret ⟨hlt,by rw [List.take_succ_eq_append_getElem hlt];rfl⟩
 ·rw [if_neg (by omega)]
  exact Tot.ret (show set.take k=set from List.take_of_length_le (by omega))
theorem impl_add {set:List TStructure} {s:TStructure} (h:okSt set) (hs:sm s):zcx set s=some (addF set s):=by
 have hb:=zre hs
 have hl:=h.l
 have hsm:small set.length:=by unfold small;omega
 unfold zcx addF
 rw [own_set h,Option.bind_some,impl_blur (zfk hs),Option.bind_some,zrv (zfk hb),Option.bind_some]
 have h1:zat set (fun x0=>zei x0 (keyF (blurF s)))=some (hasK (keyF (blurF s)) set) :=
  znn set _ (fun y=>eqS (keyF y) (keyF (blurF s))) (fun x hx=>by unfold zei;rw [zrv (zfk (h.e x hx))];rfl) hsm
 rw [h1,Option.bind_some]
 cases hasK (keyF (blurF s)) set with
 | true=>rfl
 | false =>
  simp only [cond_false,Bool.false_eq_true,if_false]
  have h2:zas set (fun x0=>zeh x0 (keyF (blurF s)))=some (match set.findIdx? (gtK (keyF (blurF s))) with | some i=>(i:Int) | none=>-1):=by
   unfold zas
   rw [indexF set _ (gtK (keyF (blurF s))) (fun x hx=>by unfold zeh;rw [zrv (zfk (h.e x hx))];rfl) hsm]
   cases set.findIdx? (gtK (keyF (blurF s))) <;> rfl
  rw [h2,Option.bind_some,insK_at]
  cases hf:set.findIdx? (gtK (keyF (blurF s))) with
  | none =>
   have hi:zba set (set.length:Int) [blurF s]=some (set ++ [blurF s]):=by
    show insF _ _ _=_
    unfold insF
    simp only
    rw [if_pos (by omega),Int.toNat_natCast,List.take_length,List.drop_length]
   rw [hi]
   rfl
  | some i =>
   have hlt:i < set.length:=by
    have:=List.of_findIdx?_eq_some hf
    rcases Nat.lt_or_ge i set.length with h | h
    ·exact h
    ·rw [List.getElem?_eq_none h] at this;cases this
   have hi:zba set (i:Int) [blurF s]=some (set.take i ++ blurF s :: set.drop i):=by
    show insF _ _ _=_
    unfold insF
    simp only
    rw [if_pos (by omega),Int.toNat_natCast]
   show (cond (ltI (i:Int) 0) _ _)=_
   simp only [ltI,zai]
   rw [if_neg (by omega),hi]
   rfl

def stepK (x:TStructure) (k:ByteArray) (d:Bool) (l:List TStructure):List TStructure × Bool :=
 if d=true then (l,true) else if l.any (gtK k)=true then (insK x k l,true) else (l,false)
theorem stepK_len (x:TStructure) (k:ByteArray) (d:Bool) (l:List TStructure):(stepK x k d l).1.length≤l.length+1:=by
 unfold stepK
 split
 ·exact Nat.le_succ _
 ·split
  ·exact Nat.le_of_eq (zru x k l)
  ·exact Nat.le_succ _
theorem stepK_snoc (x:TStructure) (k:ByteArray) (d:Bool) (l:List TStructure) (y:TStructure) :
 stepK x k d (l ++ [y])=if (stepK x k d l).2=true then ((stepK x k d l).1 ++ [y],true) else if gtK k y=true then ((stepK x k d l).1 ++ [x] ++ [y],true) else ((stepK x k d l).1 ++ [y],false):=by
 unfold stepK
 cases d with
 | true=>rfl
 | false =>
  simp only [Bool.false_eq_true,if_false,List.any_append,List.any_cons,List.any_nil,Bool.or_false]
  by_cases h:l.any (gtK k)=true
  ·rw [if_pos (by rw [h];rfl),if_pos h]
   simp only [if_true]
   rw [insK_any x k l [y] h]
  ·have h':l.any (gtK k)=false:=by simpa using h
   rw [if_neg h]
   simp only [Bool.false_eq_true,if_false,h',Bool.false_or]
   by_cases hy:gtK k y=true
   ·rw [if_pos hy,if_pos hy,zpc x k l [y] h',insK,if_pos hy]
    simp
   ·rw [if_neg hy,if_neg hy]
theorem spec_has {set:List TStructure} (k:ByteArray) (h:okSt set):(iter (ρ:=Bool) (fun s_7:Bool × Int =>
     cond (ltI s_7.2 (set.length:Int))
      (cond s_7.1
       (some (.inl (true,addI s_7.2 1)))
       ((at? set s_7.2).bind fun e_16 =>
        (zed e_16).bind fun y_21 =>
         some (.inl (eqS y_21 k,addI s_7.2 1))))
      (some (.inr s_7.1))) (false,0))=some (hasK k set):=by
 have hl:=h.l
 refine Tot.eq (Tot.loop (fun i q=>q=(hasK k (set.take i),(i:Int))) set.length rfl fun i q hI hi=>?_)
 subst hI
 simp only [ltI,zai]
 by_cases hlt:i < set.length
 ·have e:hasK k (set.take (i+1))=(hasK k (set.take i) || eqS (keyF set[i]) k):=by
   unfold hasK
   rw [List.take_succ_eq_append_getElem hlt,List.any_append]
   simp
  rw [if_pos (by omega),zcn,List.getElem?_eq_getElem hlt,Option.bind_some,zra (zfk (h.e _ (List.getElem_mem hlt))),Option.bind_some,zam (by omega) (by omega)]
  cases hh:hasK k (set.take i) with
  | true=>exact Tot.ret ⟨hlt,by rw [e,hh];rfl⟩
  | false=>exact Tot.ret ⟨hlt,by rw [e,hh];rfl⟩
 ·rw [if_neg (by omega)]
  exact Tot.ret (show hasK k (set.take i)=hasK k set by rw [List.take_of_length_le (by omega)])
theorem spec_add {set:List TStructure} {s:TStructure} (h:okSt set) (hs:sm s):zdi set s=some (addF set s):=by
 have hb:=zre hs
 have hl:=h.l
 unfold zdi addF
 rw [spec_blur (zfk hs),Option.bind_some,zra (zfk hb),Option.bind_some,spec_has _ h,Option.bind_some]
 generalize blurF s=x at hb
 generalize hk:keyF x=k
 generalize hd:hasK k set=d
 have hc:=zof x (zfk hb)
 refine Tot.eq (Tot.bind (P:=(· = stepK x k d set)) (Tot.loop (fun i q=>q=((stepK x k d (set.take i)).1,(i:Int),(stepK x k d (set.take i)).2)) set.length (by cases d <;> rfl) fun i q hI hi=>?_) fun r hr=>?_)
 ·subst hI
  simp only [ltI,zai]
  by_cases hlt:i < set.length
  ·have hy:=zfk (h.e _ (List.getElem_mem hlt))
   have hlen:=stepK_len x k d (set.take i)
   rw [List.length_take] at hlen
   have hsn:=stepK_snoc x k d (set.take i) set[i]
   rw [← List.take_succ_eq_append_getElem hlt] at hsn
   rw [if_pos (by omega),zcn,List.getElem?_eq_getElem hlt]
   simp only [Option.bind_some,zof _ hy,zra hy,hc,List.length_singleton,List.length_append]
   rw [zau (by omega) (by omega),zau (n:=_+1+1) (by omega) (by omega),zam (by omega) (by omega)]
   simp only [Option.bind_some]
   cases hd2:(stepK x k d (set.take i)).2 with
   | true =>
    rw [hd2] at hsn
    exact Tot.ret ⟨hlt,by rw [hsn];rfl⟩
   | false =>
    rw [hd2] at hsn
    simp only [Bool.false_eq_true,if_false] at hsn
    have hg:gtT (keyF set[i]) k=gtK k set[i]:=rfl
    rw [hg]
    cases hg2:gtK k set[i] with
    | true =>
     rw [hg2] at hsn
     exact Tot.ret ⟨hlt,by rw [hsn];rfl⟩
    | false =>
     rw [hg2] at hsn
     exact Tot.ret ⟨hlt,by rw [hsn];rfl⟩
  ·rw [if_neg (by omega)]
   exact Tot.ret (show ((stepK x k d (set.take i)).1,(stepK x k d (set.take i)).2)=stepK x k d set by rw [List.take_of_length_le (by omega)])
 ·subst hr
  have hlen:=stepK_len x k d set
  unfold stepK at *
  cases d with
  | true=>exact Tot.ret rfl
  | false =>
   simp only [Bool.false_eq_true,if_false] at hlen ⊢
   by_cases hg:set.any (gtK k)=true
   ·rw [if_pos hg]
    exact Tot.ret rfl
   ·have hg':set.any (gtK k)=false:=by simpa using hg
    rw [if_neg hg]
    simp only [cond_false,hc,Option.bind_some,List.length_singleton]
    rw [zau (by omega) (by omega),Option.bind_some]
    refine Tot.ret ?_
    have:=zpc x k set [] hg'
    rw [List.append_nil] at this
    rw [this]
    rfl
end Go.Ev


namespace Go.Ev
open Wf (wf)
open Sm (sm lg)

theorem cnt_set {l:List TStructure} (h:∀ x∈l,sm x):zdq l≤l.length * 2200001048576:=zqs zbs 2200001048576 l fun x hx=>cnt_str (h x hx)
theorem lg_set {l:List TStructure} (hl:l.length≤3000000) (h:∀ x∈l,sm x):lg l:=⟨by omega,fun x hx=>sm_lg (h x hx)⟩
structure MkSt (l:List TStructure):Prop where
 lg:lg l
 b:(1:Int)+zdq l≤maxMark
theorem mkSt {l:List TStructure} (hl:l.length≤2000000) (h:∀ x∈l,sm x):MkSt l:=by
 have h1:=cnt_set h
 have h2:l.length * 2200001048576≤2000000 * 2200001048576:=Nat.mul_le_mul_right _ hl
 exact ⟨lg_set (by omega) h,by unfold maxMark;omega⟩
def absF (h:THeap):TStructure:=blurF (strOf h)
theorem spec_abs {h:THeap} (s1:sm h):zcb h=some (absF h):=by
 have l1:=s1.1.1
 have l2:=s1.2.1
 unfold zcb
 rw [znk h (by unfold small;omega) (by unfold small;omega),Option.bind_some,spec_blur (zfk (zrd h))]
 rfl
theorem impl_abs {h:THeap} (s1:sm h):zce h=some (absF h):=by
 have l1:=s1.1.1
 have l2:=s1.2.1
 unfold zce
 rw [znm h (by unfold small;omega) (by unfold small;omega) (by unfold small;simp only [List.length_append];omega),Option.bind_some,impl_blur (zfk (zrd h))]
 rfl
def addK (g:Nat→TStructure) (acc:List TStructure):Nat→List TStructure
 | 0=>acc
 | k+1=>addF (addK g acc k) (g k)
theorem zsj {g:Nat→TStructure} {acc:List TStructure} {n:Nat} (hn:acc.length+n≤2000000) (ha:∀ x∈acc,sm x) (hg:∀ i,i < n→sm (g i)):∀ k,k≤n→(addK g acc k).length≤acc.length+k∧∀ x∈addK g acc k,sm x
 | 0,_=>⟨Nat.le_refl _,ha⟩
 | k+1,hk=>by
  obtain ⟨h1,h2⟩:=zsj hn ha hg k (by omega)
  obtain ⟨h3,h4⟩:=addF_ok (set:=addK g acc k) (s:=g k) ⟨by omega,h2⟩ (hg k (by omega))
  exact ⟨by rw [addK];omega,by rw [addK];exact h4⟩
def allF (l:List THeap):List TStructure:=addK (fun i=>absF (l.getD i ⟨[],[]⟩)) [] l.length
theorem sm_abs (h:THeap):sm (absF h):=zre (zrd h)
theorem spec_all {l:List THeap} (h:sm l):zde l=some (allF l):=by
 have hl:=h.1
 unfold zde
 refine Tot.eq (Tot.bind (P:=(· = allF l)) (Tot.loop (fun k q=>q=(addK (fun i=>absF (l.getD i ⟨[],[]⟩)) [] k,(k:Int))) l.length rfl fun k q hI hk=>?_) fun r hr=>by subst hr;exact Tot.ret rfl)
 subst hI
 obtain ⟨a1,a2⟩:=zsj (g:=fun i=>absF (l.getD i ⟨[],[]⟩)) (acc:=[]) (n:=l.length) (by simp;omega) (by simp) (fun i _=>sm_abs _) k hk
 simp only [List.length_nil] at a1
 simp only [ltI,zai]
 by_cases hlt:k < l.length
 ·rw [if_pos (by omega),zcn,List.getElem?_eq_getElem hlt,Option.bind_some,spec_abs (h.2 _ (List.getElem_mem hlt)),Option.bind_some,spec_add ⟨by omega,a2⟩ (sm_abs _),Option.bind_some,zam (by omega) (by omega)]
  exact Tot.ret ⟨hlt,by rw [addK];simp [List.getD,hlt]⟩
 ·rw [if_neg (by omega)]
  have:k=l.length:=by omega
  subst this
  exact Tot.ret rfl
theorem impl_all {l:List THeap} (h:sm l):zcm l=some (allF l):=by
 have hl:=h.1
 unfold zcm
 refine Tot.eq (Tot.bind (P:=(· = allF l)) (Tot.loop (fun k q=>q=(addK (fun i=>absF (l.getD i ⟨[],[]⟩)) [] k,(k:Int))) l.length rfl fun k q hI hk=>?_) fun r hr=>by subst hr;exact Tot.ret rfl)
 subst hI
 obtain ⟨a1,a2⟩:=zsj (g:=fun i=>absF (l.getD i ⟨[],[]⟩)) (acc:=[]) (n:=l.length) (by simp;omega) (by simp) (fun i _=>sm_abs _) k hk
 simp only [List.length_nil] at a1
 simp only [ltI,zai]
 by_cases hlt:k < l.length
 ·rw [if_pos (by omega),zcn,List.getElem?_eq_getElem hlt,Option.bind_some,impl_abs (h.2 _ (List.getElem_mem hlt)),Option.bind_some,impl_add ⟨by omega,a2⟩ (sm_abs _),Option.bind_some,zam (by omega) (by omega)]
  exact Tot.ret ⟨hlt,by rw [addK];simp [List.getD,hlt]⟩
 ·rw [if_neg (by omega)]
  have:k=l.length:=by omega
  subst this
  exact Tot.ret rfl
theorem law_AbstractAll {l:List THeap} (hw:wf l):laws_FnExactAbstractAll l=some true:=by
 unfold laws_FnExactAbstractAll
 obtain ⟨n,h1,h2,h3,h4⟩:=szHeapS_ok hw (left:=1048576) (by omega)
 rw [h1,Option.bind_some,zdr]
 by_cases hn:n < 0
 ·rw [if_pos hn]
 ·rw [if_neg hn]
  have sl:=h3 (by omega)
  have ll:=sl.1
  obtain ⟨f1,f2⟩:=zsj (g:=fun i=>absF (l.getD i ⟨[],[]⟩)) (acc:=[]) (n:=l.length) (by simp;omega) (by simp) (fun i _=>sm_abs _) l.length (Nat.le_refl _)
  simp only [List.length_nil] at f1
  have MG:MkSt (allF l):=mkSt (by unfold allF;omega) f2
  have bg:=MG.b
  have hcl:zgu l≤l.length * 2097152:=zqs zew 2097152 l fun x hx=>by
   have hx:=sl.2 x hx
   have h5:=hx.1.1
   have h6:=hx.2.1
   unfold zew
   rw [cntI_len,cntI_len]
   omega
  have hcl2:l.length * 2097152≤1048576 * 2097152:=Nat.mul_le_mul_right _ ll
  have bl:(1:Int)+zgu l≤maxMark:=by unfold maxMark;omega
  have e1:=zrs l 1 (by omega) bl
  have e2:=zlr (allF l) 1 (by omega) bg
  have n1:ltI (zhd l 1).2 0=false:=by simp only [ltI,decide_eq_false_iff_not];omega
  have n2:ltI (zan (allF l) 1).2 0=false:=by simp only [ltI,decide_eq_false_iff_not];omega
  simp [toHeapS_ok sl,spec_all sl,impl_all sl,eqHeapS_ok (sm_lg sl),zph MG.lg,zqe (sm_lg sl),zqe MG.lg,n1,n2,zmq MG.lg (by omega) bg,neI]
end Go.Ev


namespace Go.Proofs
open Go.Ev
theorem st0 {g:Cfg} {f:Nat} {args:List AV} {fn:Go.Func} {r:AV} (l:List Go.ResultVar) (h1:Tryz.prog.funcs[f]?=some fn) (h:Goal (FnEnd Tryz.prog 0 l ((lookK (f,atEnd) g.gho).getD []) r) (evk g (0+1) f (fn.body.getD .skip) [] { env:=fun t=>(args[t]?).getD .dead,mem:=mem0 }))
 (h0:lookN f g.ctx=none:=by rfl) (hP:g.P=Tryz.prog:=by rfl) (h2:fn.body=some (fn.body.getD .skip):=by kernel_rfl) (h3:fnOK g f fn=true:=by kernel_rfl) (h4:Nat.ble args.length fn.ntmps=true:=by kernel_rfl) (h5:fn.results.toList=l:=by rfl):∃ m,callo g 0 f args mem0=some (r,m) :=
 start_fn _ l h0 hP h1 h2 h3 (Nat.le_of_ble_eq_true h4) h5 h
theorem ent {f : Nat} {fn : Go.Func} (h : Tryz.prog.funcs[f]? = some fn) (h1 : fn.body.isSome = true := by kernel_rfl) (h2 : (fn.name == "runtime.NumGoroutine") = false := by kernel_rfl) : Go.Ev.Enters Tryz.prog f := ⟨fn, h, h1, h2⟩
@[simp] theorem ti_3:ti Tryz.prog 3=some { size:=1,bytes:=8,agg:=false,elem:=none,flds:=[],zero:=[.int .i64 0] }:=by kernel_rfl
@[simp] theorem ti_9:ti Tryz.prog 9=some { size:=1,bytes:=16,agg:=false,elem:=none,flds:=[],zero:=[.string ByteArray.empty] }:=by kernel_rfl
attribute [simp] Tryz.underlying9
@[simp] theorem ti_22:ti Tryz.prog 22=some { size:=1,bytes:=24,agg:=false,elem:=some 26,flds:=[],zero:=[.slice none 0 0] }:=by kernel_rfl
@[simp] theorem ti_23:ti Tryz.prog 23=some { size:=1,bytes:=24,agg:=false,elem:=some 77,flds:=[],zero:=[.slice none 0 0] }:=by kernel_rfl
@[simp] theorem ti_24:ti Tryz.prog 24=some { size:=1,bytes:=24,agg:=false,elem:=some 3,flds:=[],zero:=[.slice none 0 0] }:=by kernel_rfl
@[simp] theorem ti_26:ti Tryz.prog 26=some { size:=2,bytes:=48,agg:=true,elem:=none,flds:=[(0,23),(1,24)],zero:=[.slice none 0 0,.slice none 0 0] }:=by kernel_rfl
@[simp] theorem ti_29:ti Tryz.prog 29=some { size:=1,bytes:=24,agg:=false,elem:=some 34,flds:=[],zero:=[.slice none 0 0] }:=by kernel_rfl
@[simp] theorem ti_32:ti Tryz.prog 32=some { size:=1,bytes:=24,agg:=false,elem:=some 67,flds:=[],zero:=[.slice none 0 0] }:=by kernel_rfl
@[simp] theorem ti_34:ti Tryz.prog 34=some { size:=2,bytes:=48,agg:=true,elem:=none,flds:=[(0,32),(1,24)],zero:=[.slice none 0 0,.slice none 0 0] }:=by kernel_rfl
@[simp] theorem ti_45:ti Tryz.prog 45=some { size:=1,bytes:=24,agg:=false,elem:=some 71,flds:=[],zero:=[.slice none 0 0] }:=by kernel_rfl
@[simp] theorem ti_48:ti Tryz.prog 48=some { size:=1,bytes:=24,agg:=false,elem:=some 73,flds:=[],zero:=[.slice none 0 0] }:=by kernel_rfl
@[simp] theorem ti_67:ti Tryz.prog 67=some { size:=4,bytes:=64,agg:=true,elem:=none,flds:=[(0,24),(1,24),(2,3),(3,3)],zero:=[.slice none 0 0,.slice none 0 0,.int .i64 0,.int .i64 0] }:=by kernel_rfl
@[simp] theorem ti_71:ti Tryz.prog 71=some { size:=2,bytes:=48,agg:=true,elem:=none,flds:=[(0,24),(1,24)],zero:=[.slice none 0 0,.slice none 0 0] }:=by kernel_rfl
@[simp] theorem ti_73:ti Tryz.prog 73=some { size:=2,bytes:=48,agg:=true,elem:=none,flds:=[(0,24),(1,24)],zero:=[.slice none 0 0,.slice none 0 0] }:=by kernel_rfl
@[simp] theorem ti_77:ti Tryz.prog 77=some { size:=4,bytes:=64,agg:=true,elem:=none,flds:=[(0,24),(1,24),(2,3),(3,3)],zero:=[.slice none 0 0,.slice none 0 0,.int .i64 0,.int .i64 0] }:=by kernel_rfl
@[simp] theorem ti_80:ti Tryz.prog 80=some { size:=1,bytes:=24,agg:=false,elem:=some 24,flds:=[],zero:=[.slice none 0 0] }:=by kernel_rfl
@[simp] theorem ti_86:ti Tryz.prog 86=some { size:=1,bytes:=24,agg:=false,elem:=some 9,flds:=[],zero:=[.slice none 0 0] }:=by kernel_rfl
end Go.Proofs


namespace Go.Proofs
open Go.Shelf Go.RowKit Go.Lib Go.Ev

def Tryz.joinL_ren:Go.Shelf.Ren:=⟨fun | 156=>141 | 165=>156 | 166=>157 | 169=>158 | 240=>162 | 241=>163 | 276=>168 | 277=>169 | n=>n,fun | 31=>86 | 9=>9 | 3=>3 | 4=>4 | 0=>0 | 20=>20 | 72=>144 | 76=>148 | 70=>142 | 37=>118 | 75=>147 | 127=>155 | 164=>160 | 5=>5 | 80=>150 | n=>n,fun | n=>n⟩
theorem Tryz.joinL:Go.Proofs.Lays.n156 Tryz.prog Tryz.joinL_ren:={
 mixed:=by kernel_rfl
 f156:=Tryz.func141.trans (congrArg some (by kernel_rfl))
 f165:=Tryz.func156.trans (congrArg some (by kernel_rfl))
 f166:=Tryz.func157.trans (congrArg some (by kernel_rfl))
 f169:=Tryz.func158.trans (congrArg some (by kernel_rfl))
 f240:=Tryz.func162.trans (congrArg some (by kernel_rfl))
 f241:=Tryz.func163.trans (congrArg some (by kernel_rfl))
 f276:=Tryz.func168.trans (congrArg some (by kernel_rfl))
 f277:=Tryz.func169.trans (congrArg some (by kernel_rfl))
 t0:=Tryz.underlying0
 a0:=Tryz.isAgg0
 z0:=Tryz.sizeOf0
 v0:=Tryz.zeroValue0
 t3:=Tryz.underlying3
 a3:=Tryz.isAgg3
 z3:=Tryz.sizeOf3
 v3:=Tryz.zeroValue3
 t4:=Tryz.underlying4
 a4:=Tryz.isAgg4
 z4:=Tryz.sizeOf4
 v4:=Tryz.zeroValue4
 t9:=Tryz.underlying9
 a9:=Tryz.isAgg9
 z9:=Tryz.sizeOf9
 v9:=Tryz.zeroValue9
 t20:=Tryz.underlying20
 a20:=Tryz.isAgg20
 z20:=Tryz.sizeOf20
 v20:=Tryz.zeroValue20
 t31:=Tryz.underlying86
 a31:=Tryz.isAgg86
 z31:=Tryz.sizeOf86
 v31:=Tryz.zeroValue86
 t37:=Tryz.underlying118
 a37:=Tryz.isAgg118
 z37:=Tryz.sizeOf118
 v37:=Tryz.zeroValue118
 t70:=Tryz.underlying142
 a70:=Tryz.isAgg142
 z70:=Tryz.sizeOf142
 v70:=Tryz.zeroValue142
 t72:=Tryz.underlying144
 a72:=Tryz.isAgg144
 z72:=Tryz.sizeOf144
 v72:=Tryz.zeroValue144
 t75:=Tryz.underlying147
 a75:=Tryz.isAgg147
 z75:=Tryz.sizeOf147
 v75:=Tryz.zeroValue147
 t76:=Tryz.underlying148
 a76:=Tryz.isAgg148
 z76:=Tryz.sizeOf148
 v76:=Tryz.zeroValue148
 t127:=Tryz.underlying155
 a127:=Tryz.isAgg155
 z127:=Tryz.sizeOf155
 v127:=Tryz.zeroValue155
 t164:=Tryz.underlying160
 a164:=Tryz.isAgg160
 z164:=Tryz.sizeOf160
 v164:=Tryz.zeroValue160 }

def Tryz.itoaL_ren:Go.Shelf.Ren:=⟨fun | 171=>140 | 243=>155 | 246=>161 | 283=>164 | 284=>165 | 285=>166 | 286=>167 | 129=>136 | 317=>170 | 318=>171 | 319=>172 | 320=>173 | 337=>174 | 338=>175 | n=>n,fun | 3=>3 | 9=>9 | 2=>2 | 4=>4 | 171=>156 | 0=>0 | 53=>132 | 37=>118 | 5=>5 | 173=>158 | 212=>164 | 51=>130 | 20=>20 | 213=>165 | 46=>107 | 232=>166 | 233=>167 | n=>n,fun | 17=>1 | 18=>2 | 19=>3 | n=>n⟩
theorem Tryz.itoaL:Go.Proofs.Lays.n171 Tryz.prog Tryz.itoaL_ren:={
 mixed:=by kernel_rfl
 f129:=Tryz.func136.trans (congrArg some (by kernel_rfl))
 f171:=Tryz.func140.trans (congrArg some (by kernel_rfl))
 f243:=Tryz.func155.trans (congrArg some (by kernel_rfl))
 f246:=Tryz.func161.trans (congrArg some (by kernel_rfl))
 f283:=Tryz.func164.trans (congrArg some (by kernel_rfl))
 f284:=Tryz.func165.trans (congrArg some (by kernel_rfl))
 f285:=Tryz.func166.trans (congrArg some (by kernel_rfl))
 f286:=Tryz.func167.trans (congrArg some (by kernel_rfl))
 f317:=Tryz.func170.trans (congrArg some (by kernel_rfl))
 f318:=Tryz.func171.trans (congrArg some (by kernel_rfl))
 f319:=Tryz.func172.trans (congrArg some (by kernel_rfl))
 f320:=Tryz.func173.trans (congrArg some (by kernel_rfl))
 f337:=Tryz.func174.trans (congrArg some (by kernel_rfl))
 f338:=Tryz.func175.trans (congrArg some (by kernel_rfl))
 t0:=Tryz.underlying0
 a0:=Tryz.isAgg0
 z0:=Tryz.sizeOf0
 v0:=Tryz.zeroValue0
 t2:=Tryz.underlying2
 a2:=Tryz.isAgg2
 z2:=Tryz.sizeOf2
 v2:=Tryz.zeroValue2
 t3:=Tryz.underlying3
 a3:=Tryz.isAgg3
 z3:=Tryz.sizeOf3
 v3:=Tryz.zeroValue3
 t4:=Tryz.underlying4
 a4:=Tryz.isAgg4
 z4:=Tryz.sizeOf4
 v4:=Tryz.zeroValue4
 t5:=Tryz.underlying5
 a5:=Tryz.isAgg5
 z5:=Tryz.sizeOf5
 v5:=Tryz.zeroValue5
 t9:=Tryz.underlying9
 a9:=Tryz.isAgg9
 z9:=Tryz.sizeOf9
 v9:=Tryz.zeroValue9
 t20:=Tryz.underlying20
 a20:=Tryz.isAgg20
 z20:=Tryz.sizeOf20
 v20:=Tryz.zeroValue20
 t37:=Tryz.underlying118
 a37:=Tryz.isAgg118
 z37:=Tryz.sizeOf118
 v37:=Tryz.zeroValue118
 t46:=Tryz.underlying107
 a46:=Tryz.isAgg107
 z46:=Tryz.sizeOf107
 v46:=Tryz.zeroValue107
 t51:=Tryz.underlying130
 a51:=Tryz.isAgg130
 z51:=Tryz.sizeOf130
 v51:=Tryz.zeroValue130
 t53:=Tryz.underlying132
 a53:=Tryz.isAgg132
 z53:=Tryz.sizeOf132
 v53:=Tryz.zeroValue132
 t171:=Tryz.underlying156
 a171:=Tryz.isAgg156
 z171:=Tryz.sizeOf156
 v171:=Tryz.zeroValue156
 t173:=Tryz.underlying158
 a173:=Tryz.isAgg158
 z173:=Tryz.sizeOf158
 v173:=Tryz.zeroValue158
 t212:=Tryz.underlying164
 a212:=Tryz.isAgg164
 z212:=Tryz.sizeOf164
 v212:=Tryz.zeroValue164
 t213:=Tryz.underlying165
 a213:=Tryz.isAgg165
 z213:=Tryz.sizeOf165
 t232:=Tryz.underlying166
 a232:=Tryz.isAgg166
 z232:=Tryz.sizeOf166
 v232:=Tryz.zeroValue166
 t233:=Tryz.underlying167
 a233:=Tryz.isAgg167
 z233:=Tryz.sizeOf167
 v233:=Tryz.zeroValue167
 g17:=by kernel_rfl
 g18:=by kernel_rfl
 g19:=by kernel_rfl }

theorem Tryz.joinX:Builder.Extra Tryz.prog Tryz.joinL_ren:={
 sizeBuilder:=by kernel_rfl
 liesBuilder:=by kernel_rfl
 t5:=Tryz.underlying5
 a5:=Tryz.isAgg5
 z5:=Tryz.sizeOf5
 v5:=Tryz.zeroValue5
 infoByte:=by kernel_rfl
 cellsByte:=by kernel_rfl
 sizeByte:=by kernel_rfl
 neB5:=by decide }
theorem pcG141:PC Tryz.prog 141 (specP (X:=List ByteArray × ByteArray × Unit) fun x=>joinF x.1 x.2.1) :=
 pc_join ⟨Tryz.f141,Tryz.func141,by kernel_rfl,by kernel_rfl⟩ (fun a c sep w=>(Any.strings_Join_none Tryz.joinL Tryz.joinX a c sep w).mono fun e w' h=>⟨h.1,h.2 ▸ Below.refl _ _⟩)
  fun b o c xs sep w _ hc hb h1 h2 h3=>Any.strings_Join Tryz.joinL Tryz.joinX b o c xs sep w hc hb (by omega) h2 (show (joinL xs sep).length≤_ by omega)
theorem dec_dig (k:Nat) (h:k < 10):Lib.decDigits k=[UInt8.ofNat (48+k)]:=by
 unfold Lib.decDigits
 rw [dif_pos h]
theorem pcG140:PC Tryz.prog 140 (specP (X:=Int × Unit) fun x=>digF x.1) :=
 pc_dig ⟨Tryz.f140,Tryz.func140,by kernel_rfl,by kernel_rfl⟩ fun k w hk=>(Any.strconv_Itoa_small Tryz.itoaL k (by omega) w).mono fun e w' h=>⟨by rw [h.1,dec_dig k hk],h.2 ▸ Below.refl _ _⟩
end Go.Proofs


namespace Go.Proofs
open Go.Shelf Go.RowKit Go.Lib Go.Ev Go.Sort

set_option maxHeartbeats 4000000 in
set_option maxRecDepth 1000000 in
theorem dig123 (k:Nat) (w:World) (hk:k < 10):Calls Tryz.prog 123 #[.int .i64 k] w fun e w'=>e=.returned (.string ⟨#[UInt8.ofNat (48+k)]⟩)∧Below w.heap.size w w':=by
 rcases Nat.eq_zero_or_pos k with rfl | hp
 ·go_enter Tryz.func123,Tryz.ntmps123
  go_wp2
  go_ret
  exact ⟨rfl,Below.refl _ _⟩
 ·have hp':¬ ((k:Int)=0):=by omega
  have hn':¬ ((k:Int) < 0):=by omega
  go_enter Tryz.func123,Tryz.ntmps123
  go_wp2
  go_loopg [0,4] 1 (fun g s0 s4 wr=>∃ (x:Int) (out:ByteArray),s0=.int .i64 x∧s4=.string out∧Hid ((g=1∧x=k∧out=⟨#[]⟩∨g=0∧x=0∧out=⟨#[UInt8.ofNat (48+k)]⟩)∧Below w.heap.size w wr))
  case atStart=>exact ⟨k,_,rfl,rfl,.inl ⟨rfl,rfl,rfl⟩,Below.refl _ _⟩
  case round =>
   obtain ⟨x,out,rfl,rfl,hI,hB⟩:=hrel
   have HB:Hid _:=hB
   clear hB
   rcases hI with ⟨rfl,rfl,rfl⟩|⟨rfl,rfl,rfl⟩
   ·have hm:(k:Int).tmod 10=k:=by rw [Int.tmod_eq_emod_of_nonneg (by omega)];omega
    have hm2:(k:Int) % 10=k:=by omega
    have hq:(k:Int) / 10=0:=by omega
    have hq2:(k:Int).tdiv 10=0:=by rw [Int.tdiv_eq_ediv_of_nonneg (by omega)];omega
    have hconv:(convert 118 9 (.slice (some ⟨wr.heap.size,0,none⟩) 1 1)).run Tryz.prog (wr.alloc (.cells #[.int .u8 (48+k)] 5))=.ok (.string ⟨#[UInt8.ofNat (48+k)]⟩) (wr.alloc (.cells #[.int .u8 (48+k)] 5)):=by
     have:=run_convert_bytes_arg (P:=Tryz.prog) (wr.alloc (.cells #[.int .u8 (48+k)] 5)) 118 5 Tryz.underlying118 Tryz.underlying5 wr.heap.size 0 1 1 [48+(k:Int)] rfl (fun i hi=>by
      obtain rfl:i=0:=by omega
      simp) 9 Tryz.underlying9
     rw [this]
     rfl
    go_wp2
    go_roundg 0
    case measure=>omega
    case rel=>exact ⟨_,_,rfl,rfl,.inr ⟨rfl,by simp,by simp;rfl⟩,HB.out.alloc HB.out.size _⟩
   ·go_wp2
    go_ret
    exact ⟨rfl,HB.out⟩

theorem join_snoc (l:List (List UInt8)) (x sep:List UInt8) (h:l≠[]):Lib.join (l ++ [x]) sep=Lib.join l sep ++ sep ++ x:=by
 cases l with
 | nil=>exact absurd rfl h
 | cons a r =>
  rw [List.cons_append,Lib.join_cons,Lib.join_cons]
  simp [Lib.joinTail]
theorem zmp (xs:List ByteArray) (sep:ByteArray) (i:Nat) (h:i < xs.length):joinL (xs.take (i+1)) sep=if i=0 then xs[i].data.toList else joinL (xs.take i) sep ++ sep.data.toList ++ xs[i].data.toList:=by
 unfold joinL
 rw [List.take_succ_eq_append_getElem h,List.map_append,List.map_cons,List.map_nil]
 split
 ·rename_i h0
  subst h0
  simp [Lib.join_one]
 ·rename_i hi
  have hne:(xs.take i).map (·.data.toList)≠[]:=by
   intro h0
   rw [List.map_eq_nil_iff,List.take_eq_nil_iff] at h0
   rcases h0 with h0 | h0
   ·exact hi h0
   ·subst h0
    simp at h
  exact join_snoc _ _ _ hne
theorem joinL_mono (xs:List ByteArray) (sep:ByteArray) (i:Nat) (h:i≤xs.length):(joinL (xs.take i) sep).length≤(joinL xs sep).length:=by
 have:∀ k,i+k≤xs.length→(joinL (xs.take i) sep).length≤(joinL (xs.take (i+k)) sep).length:=by
  intro k
  induction k with
  | zero=>intro _;exact Nat.le_refl _
  | succ k ih =>
   intro hk
   refine Nat.le_trans (ih (by omega)) ?_
   rw [show i+(k+1)=i+k+1 by omega,zmp xs sep (i+k) (by omega)]
   split
   ·rename_i h0
    have e:(joinL (xs.take (i+k)) sep).length=0:=by rw [h0];simp [joinL,Lib.join_nil]
    omega
   ·simp only [List.length_append];omega
 have h2:=this (xs.length - i) (by omega)
 rw [show i+(xs.length - i)=xs.length by omega,List.take_length] at h2
 exact h2
def jcells (l:List UInt8):List Value:=l.map fun b=>Value.int .u8 b.toNat
theorem info5:(Tryz.prog.info? 5).map (fun i=>(i.zero,i.size,i.bytes))=some (some (.int .u8 0),1,1):=by kernel_rfl

theorem conv118 {w:World} {base:Nat} {v:Value} {L:List UInt8} (h:w.ownsRow base 5 1 v L.length (jcells L)):(convert 118 9 v).run Tryz.prog w=.ok (.string ⟨L.toArray⟩) w:=by
 have e:strOfNums (L.map fun b=>(b.toNat:Int))=⟨L.toArray⟩:=by
  unfold strOfNums
  rw [List.map_map]
  congr 2
  conv=>rhs;rw [← List.map_id L]
  exact List.map_congr_left fun b _=>by simp
 rcases h.2 with ⟨rfl,h0⟩|⟨g,cap,cur,rfl,_⟩
 ·rw [run_convert_bytes_nil w 118 5 Tryz.underlying118 Tryz.underlying5 0 0 9 Tryz.underlying9]
  have:L=[]:=List.length_eq_zero_iff.1 h0
  subst this
  rfl
 ·have:=run_convert_bytes_arg (P:=Tryz.prog) w 118 5 Tryz.underlying118 Tryz.underlying5 g 0 L.length cap (L.map fun b=>(b.toNat:Int)) (by simp) (fun i hi=>by
   rw [Nat.zero_add,h.cellAt i (by omega),jcells,List.getElem?_map,List.getElem?_eq_getElem hi]
   simp [hi]) 9 Tryz.underlying9
  rw [this,e]

set_option maxHeartbeats 4000000 in
set_option maxRecDepth 1000000 in
theorem join87 (base:Option Addr) (b o c n:Nat) (xs:List ByteArray) (sep:ByteArray) (w:World) (hbase:0 < n→base=some ⟨b,o,none⟩) (hc:Hid (∀ (j:Nat) x,xs[j]?=some x→w.cell? ⟨b,o+j,none⟩=some (.string x))) (hb:Hid (0 < n→b < w.heap.size)) (hl:Hid (xs.length=n)) (hn:n≤1000000) (hlen:Hid ((joinL xs sep).length≤1000000000)) :
 Calls Tryz.prog 87 #[.slice base n c,.string sep] w fun e w'=>e=.returned (.string ⟨(joinL xs sep).toArray⟩)∧Below w.heap.size w w':=by
 obtain ⟨i0,hi,hz0,hz1,hz2⟩:=info_parts info5
 have B:Aside (i0.size=1∧i0.bytes=1):=⟨hz1,hz2⟩
 clear hz1 hz2
 go_enter Tryz.func87,Tryz.ntmps87
 go_wp2
 go_loopg [5,6] n (fun k v s6 wr=>∃ i,k=n - i∧i≤n∧s6=.int .i64 i∧Hid (wr.ownsRow w.heap.size 5 1 v (joinL (xs.take i) sep).length (jcells (joinL (xs.take i) sep))∧Below w.heap.size w wr))
 case atStart=>exact ⟨0,rfl,Nat.zero_le _,rfl,by
  refine ⟨?_,(Below.refl _ _).alloc (Nat.le_refl _) _⟩
  have:=World.ownsRow_lit (base:=w.heap.size) (e:=5) (size:=1) w #[] 0 (Nat.le_refl _) (by decide) rfl
  simpa [joinL,Lib.join_nil,jcells] using this⟩
 case round =>
  obtain ⟨i,hk,hi2,rfl,hI⟩:=hrel
  have HI:Hid _:=hI
  clear hI
  by_cases hlt:i < n
  ·obtain rfl:=hbase (by omega)
   have hli:i < xs.length:=by rw [hl.out];exact hlt
   have hx0:w.cell? ⟨b,o+i,none⟩=some (.string xs[i]):=hc.out i _ (List.getElem?_eq_getElem hli)
   obtain ⟨x,hx⟩:∃ x,x=xs[i]:=⟨_,rfl⟩
   rw [← hx] at hx0
   have hxc:wr.cell? ⟨b,o+i,none⟩=some (.string x):=by rw [HI.out.2.cell (hb.out (by omega))];exact hx0
   have HX:Hid (x=xs[i]):=hx
   clear hx hx0
   have hlt':(i:Int) < (n:Int):=by omega
   have hz:Hid ((joinL (xs.take (i+1)) sep).length≤1000000000):=Nat.le_trans (joinL_mono xs sep (i+1) hli) hlen.out
   by_cases h0:i=0
   ·subst h0
    have h0':¬ ((0:Int) > 0):=by omega
    rw [Nat.add_zero] at hxc
    have e1:Hid (joinL (xs.take (0+1)) sep=x.data.toList):=by show _=_;rw [zmp xs sep 0 hli,if_pos rfl,HX.out]
    have e0:Hid (joinL (xs.take 0) sep=[]):=by show _=_;simp [joinL,Lib.join_nil]
    have hs:Hid ((joinL (xs.take 0) sep).length+x.size≤1000000000):=by
     have:=hz.out
     rw [e1.out,Array.length_toList] at this
     rw [e0.out]
     show 0+x.data.size≤_
     omega
    go_wp2_with (at_builtin;refine wpList_append_own_string _ rfl _ _ 118 9 rfl w.heap.size 5 i0 Tryz.underlying118 Tryz.underlying9 hi hz0 B.out.1 B.out.2 _ _ _ rfl HI.out.1 x rfl (Nat.le_trans hs.out (by decide)) (Nat.le_trans hs.out (by decide)) HI.out.2.size ?_;rintro v' w' hown hgr hnil)
    go_roundg (n - 1)
    case measure=>omega
    case rel =>
     refine ⟨1,rfl,by omega,rfl,?_,HI.out.2.grown hgr HI.out.2.size fun k hk=>(HI.out.1.lt k hk).1⟩
     rw [show (1:Nat)=0+1 from rfl,e1.out]
     rw [e0.out] at hown
     have e2:x.data.toList.length=x.size:=Array.length_toList
     rw [e2]
     simpa [jcells,strCells] using hown
   ·have h0':(i:Int) > 0:=by omega
    have e1:Hid (joinL (xs.take (i+1)) sep=joinL (xs.take i) sep ++ sep.data.toList ++ x.data.toList):=by show _=_;rw [zmp xs sep i hli,if_neg h0,HX.out]
    have hs:Hid ((joinL (xs.take i) sep).length+sep.size+x.size≤1000000000):=by
     have:=hz.out
     rw [e1.out,List.length_append,List.length_append,Array.length_toList,Array.length_toList] at this
     exact this
    have hbw:Hid (b < w.heap.size):=hb.out (by omega)
    have hx0:Hid (w.cell? ⟨b,o+i,none⟩=some (.string x)):=by show _=_;rw [← HI.out.2.cell hbw.out];exact hxc
    clear hxc
    go_wp2_with (first | (at_builtin;refine wpList_append_own_string _ rfl _ _ 118 9 rfl w.heap.size 5 i0 Tryz.underlying118 Tryz.underlying9 hi hz0 B.out.1 B.out.2 _ _ _ rfl HI.out.1 sep rfl (Nat.le_trans (Nat.le_trans (Nat.le_add_right _ _) hs.out) (by decide)) (Nat.le_trans (Nat.le_trans (Nat.le_add_right _ _) hs.out) (by decide)) HI.out.2.size ?_;rintro v' w' hown hgr hnil;have HB:Hid (RowKit.Below w.heap.size w w'):=HI.out.2.grown hgr HI.out.2.size fun k hk=>(HI.out.1.lt k hk).1;have hxc:w'.cell? ⟨b,o+i,none⟩=some (.string x):=(HB.out.cell hbw.out).trans hx0.out;have HO:Hid _:=hown;clear hown hgr hnil) | (at_builtin;refine wpList_append_own_string _ rfl _ _ 118 9 rfl w.heap.size 5 i0 Tryz.underlying118 Tryz.underlying9 hi hz0 B.out.1 B.out.2 _ _ _ rfl HO.out x rfl (Nat.le_trans hs.out (by decide)) (Nat.le_trans hs.out (by decide)) HB.out.size ?_;rintro v2 w2 hown2 hgr2 hnil2))
    go_roundg (n - (i+1))
    case measure=>omega
    case rel =>
     refine ⟨i+1,rfl,by omega,by simp,?_,HB.out.grown hgr2 HB.out.size fun k hk=>(World.ownsRow.lt HO.out k hk).1⟩
     rw [e1.out]
     have e2:x.data.toList.length=x.size:=Array.length_toList
     have e3:sep.data.toList.length=sep.size:=Array.length_toList
     rw [List.length_append,List.length_append,e2,e3]
     simpa [jcells,strCells] using hown2
  ·obtain rfl:i=n:=by omega
   have hT:joinL (xs.take i) sep=joinL xs sep:=by rw [← hl.out,List.take_length]
   rw [hT] at HI
   obtain ⟨L,hL⟩:∃ L,L=joinL xs sep:=⟨_,rfl⟩
   rw [← hL] at HI
   have HL:Hid (L=joinL xs sep):=hL
   have hconv:=conv118 HI.out.1
   clear hL hT
   have hB:Hid (RowKit.Below w.heap.size w wr):=HI.out.2
   clear HI
   obtain ⟨cv,hcv⟩:∃ cv,cv=(⟨L.toArray⟩:ByteArray):=⟨_,rfl⟩
   rw [← hcv] at hconv
   have HC:Hid (cv=(⟨L.toArray⟩:ByteArray)):=hcv
   clear hcv
   go_wp2
   go_ret
   exact ⟨by rw [HC.out,HL.out];rfl,hB.out⟩
theorem pcG87:PC Tryz.prog 87 (specP (X:=List ByteArray × ByteArray × Unit) fun x=>joinF x.1 x.2.1) :=
 pc_join ⟨Tryz.f87,Tryz.func87,by kernel_rfl,by kernel_rfl⟩ (fun a c sep w=>by
  have:=join87 a 0 0 c 0 [] sep w (fun h=>by omega) (fun j x h=>by simp at h) (fun h=>by omega) rfl (by omega) (by show _≤_;simp [joinL,Lib.join_nil])
  simpa [joinL,Lib.join_nil] using this)
  fun b o c xs sep w _ hc hb h1 h2 h3=>join87 _ b o c xs.length xs sep w (fun _=>rfl) hc (fun _=>hb) rfl h1 h3
theorem pcG123:PC Tryz.prog 123 (specP (X:=Int × Unit) fun x=>digF x.1) :=
 pc_dig ⟨Tryz.f123,Tryz.func123,by kernel_rfl,by kernel_rfl⟩ fun k w hk=>dig123 k w hk
end Go.Proofs


namespace Go.Proofs
open Go.Shelf Go.RowKit Go.Lib Go.Ev

theorem info34:(Tryz.prog.info? 34).map (fun i=>(i.zero,i.size,i.bytes))=some (some (.agg #[.slice none 0 0,.slice none 0 0]),2,48):=by kernel_rfl

set_option maxHeartbeats 4000000 in
set_option maxRecDepth 100000 in
theorem ins_shift (b n c i vb vc:Nat) (cs vs:List Value) (w:World) (hi:i < n) (hroom:n+1≤c) (hn1:n≤3000000) (hvb:vb≠b)
 (hcl:cs.length=n * 2) (hvl:vs.length=2)
 (hcs:∀ j v,cs[j]?=some v→w.cell? ⟨b,j,none⟩=some v) (hsp:∀ j,j < (n+1) * 2→(w.cell? ⟨b,j,none⟩).isSome=true) (hfz:∀ j,j < (n+1) * 2→w.frozen? ⟨b,j,none⟩=false)
 (hvs:∀ j v,vs[j]?=some v→w.cell? ⟨vb,j,none⟩=some v) (h1c:∀ v∈cs,v.oneCell'=true) (h1v:∀ v∈vs,v.oneCell'=true)
 (tA tB:TypeId) (kA kB:Nat) (hsa:w.shape? vb=some (tA,kA)) (hsb:w.shape? b=some (tB,kB)) (hkB:kB≠0) (hfa:w.frozen? ⟨vb,0,none⟩=false) (hfe:w.frozen? ⟨vb,kA,none⟩=false) :
 Calls Tryz.prog 42 #[.slice (some ⟨b,0,none⟩) n c,.int .i64 i,.slice (some ⟨vb,0,none⟩) 1 vc] w fun e w' =>
  e=.returned (.slice (some ⟨b,0,none⟩) (n+1) c)∧w'=(w.drew.setCells b ((i+1) * 2) (cs.drop (i * 2))).setCells b (i * 2) vs:=by
 have u29:=run_underlying Tryz.underlying29
 have mixed:Tryz.prog.follows .mixedOrders=true:=by kernel_rfl
 have hz2:¬ ((i:Int)=(n:Int)):=by omega
 have hsz:(Tryz.prog.info? 34).map (·.size)=some 2:=by
  obtain ⟨i0,hi0,h0,h1,h2⟩:=info_parts info34
  rw [hi0];simp [h1]
 have hov:∀ lb cb,(callFunc 74 #[.slice (some ⟨vb,0,none⟩) 1 vc,.slice (some ⟨b,(i+1) * 2,none⟩) lb cb]).run Tryz.prog w=.ok (.value (.bool false)) w:=fun lb cb=>by
  rw [run_callFunc_extern Tryz.func74 (by kernel_rfl) (by kernel_rfl) (by kernel_rfl) (e:=Extern.SlicesOverlaps.overlaps #[29,29] #[4]) (by kernel_rfl),
   Lib.run_overlaps_apart w 29 4 34 Tryz.underlying29 2 Tryz.sizeOf34 ⟨vb,0,none⟩ ⟨b,(i+1) * 2,none⟩ 1 vc lb cb hvb tA tB kA kB hsa hsb hkB hfa hfe]
  rfl
 have hw1:IntKind.i64.wrap ((i:Int)+1)=(i:Int)+1:=by rw [IntKind.wrap_i64];omega
 have hb1:(0:Int)≤(i:Int)+1:=by omega
 have hin:i≤n:=by omega
 have htn:((i:Int)+1).toNat=i+1:=by omega
 have hb2:¬ (c=i+1):=by omega
 have hb3:(i:Int)≤(n:Int)+1:=by omega
 have hb4:¬ (c=i):=by omega
 have hdl:(cs.drop (i * 2)).length=(n - i) * 2:=by rw [List.length_drop,hcl];omega
 have hcp1:∀ ty dc sc,(Builtin.copy_ #[29,29] ty #[.slice (some ⟨b,(i+1) * 2,none⟩) (n - i) dc,.slice (some ⟨b,i * 2,none⟩) (n+1 - i) sc]).run Tryz.prog w.drew=.ok (goInt (Nat.min (n+1 - i) (n - i))) (w.drew.setCells b ((i+1) * 2) (cs.drop (i * 2))):=fun ty dc sc =>
  zkc w.drew _ _ ty 34 2 b ((i+1) * 2) (n - i) dc ⟨b,i * 2,none⟩ (n+1 - i) sc (cs.drop (i * 2)) Tryz.underlying29 hsz (by rw [hdl];simp only [Nat.min_def];split <;> omega)
   (fun j v hj=>by rw [Addr.add_lit];exact hcs (i * 2+j) v (by rwa [List.getElem?_drop] at hj))
   (fun j hj=>hsp _ (by rw [hdl] at hj;omega)) (fun j hj=>hfz _ (by rw [hdl] at hj;omega)) (fun v hv=>h1c v (List.mem_of_mem_drop hv))
 obtain ⟨W1,hW1⟩:∃ W1,W1=w.drew.setCells b ((i+1) * 2) (cs.drop (i * 2)):=⟨_,rfl⟩
 have hsp1:∀ k,k < (n+1) * 2→(W1.cell? ⟨b,k,none⟩).isSome=true:=fun k hk=>by
  rw [hW1]
  exact isSome_setCells b (cs.drop (i * 2)) ((i+1) * 2) w.drew (fun j hj=>hsp _ (by rw [hdl] at hj;omega)) k (hsp k hk)
 have hcp2:∀ (W:World),(∀ x,W.cell? x=W1.cell? x)→(∀ x,W.frozen? x=W1.frozen? x)→∀ ty dc,(Builtin.copy_ #[29,29] ty #[.slice (some ⟨b,i * 2,none⟩) (n+1 - i) dc,.slice (some ⟨vb,0,none⟩) 1 vc]).run Tryz.prog W=.ok (goInt (Nat.min 1 (n+1 - i))) (W.setCells b (i * 2) vs):=fun W hWc hWf ty dc =>
  zkc W _ _ ty 34 2 b (i * 2) (n+1 - i) dc ⟨vb,0,none⟩ 1 vc vs Tryz.underlying29 hsz (by rw [hvl];simp only [Nat.min_def];split <;> omega)
   (fun j v hj=>by
    rw [Addr.add_lit,hWc,hW1,World.cell?_setCells_out b _ _ _ _ (fun h _=>absurd h hvb),Nat.zero_add]
    exact hvs j v hj)
   (fun j hj=>by rw [hWc];exact hsp1 _ (by omega)) (fun j hj=>by rw [hWf,hW1,World.frozen?_setCells];exact hfz _ (by omega)) h1v
 rw [← hW1] at hcp1
 go_enter Tryz.func42,Tryz.ntmps42
 go_wp2_with (simp only [hov])
 go_region_law_o (refine step_copy_runI rfl _ _ 29 29 rfl _ _ (by simp [Act.eval,Act.put]) (by simp [Act.eval,Act.put]) (hcp1 _ _ _) ?_)
 go_wp2_with (at_builtin;refine wpList_copy_runI _ rfl _ _ 29 29 rfl _ _ rfl rfl (hcp2 _ (fun _=>rfl) (fun _=>rfl) _ _) ?_)
 go_ret
 first | exact ⟨rfl,rfl⟩ | exact ⟨rfl,by rw [hW1]⟩

abbrev zS:Value:=.agg #[.slice none 0 0,.slice none 0 0]

set_option maxHeartbeats 4000000 in
set_option maxRecDepth 100000 in
theorem ins_end_room (b n c vb vc:Nat) (vs:List Value) (w:World) (hroom:n+1≤c) (hn1:n≤3000000)
 (hvl:vs.length=2) (hsp:∀ j,j < 2→(w.cell? ⟨b,0+n * 2+j,none⟩).isSome=true) (hfz:∀ j,j < 2→w.frozen? ⟨b,0+n * 2+j,none⟩=false)
 (hvs:∀ j v,vs[j]?=some v→w.cell? ⟨vb,j,none⟩=some v) (h1v:∀ v∈vs,v.oneCell'=true) :
 Calls Tryz.prog 42 #[.slice (some ⟨b,0,none⟩) n c,.int .i64 n,.slice (some ⟨vb,0,none⟩) 1 vc] w fun e w' =>
  e=.returned (.slice (some ⟨b,0,none⟩) (n+1) c)∧w'=w.setCells b (0+n * 2) vs:=by
 have u29:=run_underlying Tryz.underlying29
 have mixed:Tryz.prog.follows .mixedOrders=true:=by kernel_rfl
 obtain ⟨i0,hi0,hz0,hzs,hzb⟩:=info_parts info34
 have hsrc:Src Tryz.prog i0.size 29 (.slice (some ⟨vb,0,none⟩) 1 vc) 1 vs w:=by
  rw [hzs]
  exact Src.ofSlice w Tryz.underlying29 ⟨vb,0,none⟩ 1 vc vs (by omega) (fun j u hj=>by rw [Addr.add_lit,Nat.zero_add];exact hvs j u hj) h1v
 have hrun:∀ ty,(Builtin.append_ #[29,29] ty #[.slice (some ⟨b,0,none⟩) n c,.slice (some ⟨vb,0,none⟩) 1 vc]).run Tryz.prog w=.ok (.slice (some ⟨b,0,none⟩) (n+1) c) (w.setCells b (0+n * 2) vs):=fun ty=>by
  have:=run_append_room_src (P:=Tryz.prog) w 29 29 ty 34 i0 Tryz.underlying29 hi0 b 0 n c _ 1 vs hsrc hroom (by rw [hvl,hzs];exact hsp) (by rw [hvl,hzs];exact hfz)
  rwa [hzs] at this
 clear hsrc hi0 hz0 hzs hzb
 go_enter Tryz.func42,Tryz.ntmps42
 go_wp2_with (at_builtin;refine Lib.wpList_append_run _ rfl _ _ _ _ rfl _ _ rfl rfl _ _ (hrun _) ?_)
 all_goals (go_ret;exact ⟨rfl,by rw [Nat.zero_add]⟩)

set_option maxHeartbeats 4000000 in
set_option maxRecDepth 100000 in
theorem ins_end_grow (base:Option Addr) (n c vb vc:Nat) (cs vs:List Value) (w:World) (hnc:n≤c) (hroom:c < n+1) (hn1:n≤3000000)
 (hcl:cs.length=n * 2) (hvl:vs.length=2) (hnil:base=none→n=0)
 (hcs:∀ a,base=some a→∀ j v,cs[j]?=some v→w.cell? (a.add j)=some v)
 (hvs:∀ j v,vs[j]?=some v→w.cell? ⟨vb,j,none⟩=some v) (h1v:∀ v∈vs,v.oneCell'=true) :
 Calls Tryz.prog 42 #[.slice base n c,.int .i64 n,.slice (some ⟨vb,0,none⟩) 1 vc] w fun e w' =>
  e=.returned (.slice (some ⟨w.heap.size,0,none⟩) (n+1) (grownCap w (n+1) c 34)) ∧
  w'=w.drew.alloc (.cells ((cs ++ vs).toArray ++ Builtin.zeroCells zS.cells (grownCap w (n+1) c 34 - (n+1))) 34):=by
 have u29:=run_underlying Tryz.underlying29
 have mixed:Tryz.prog.follows .mixedOrders=true:=by kernel_rfl
 obtain ⟨i0,hi0,hz0,hzs,hzb⟩:=info_parts info34
 have hsrc:Src Tryz.prog i0.size 29 (.slice (some ⟨vb,0,none⟩) 1 vc) 1 vs w:=by
  rw [hzs]
  exact Src.ofSlice w Tryz.underlying29 ⟨vb,0,none⟩ 1 vc vs (by omega) (fun j u hj=>by rw [Addr.add_lit,Nat.zero_add];exact hvs j u hj) h1v
 have hold:(Builtin.firstCells i0.size n (.slice base n c)).run Tryz.prog w.drew=.ok cs.toArray w.drew:=by
  rw [hzs]
  cases base with
  | none =>
   have h0:=hnil rfl
   subst h0
   have hcs0:cs=[]:=List.length_eq_zero_iff.1 (by omega)
   rw [hcs0]
   exact run_firstCells_none w.drew 2 0 0 c
  | some a=>exact run_firstCells_some w.drew 2 n a n c cs (by omega) (fun j v hj=>hcs a rfl j v hj)
 have hrun:∀ ty,(Builtin.append_ #[29,29] ty #[.slice base n c,.slice (some ⟨vb,0,none⟩) 1 vc]).run Tryz.prog w=.ok (.slice (some ⟨w.heap.size,0,none⟩) (n+1) (grownCap w (n+1) c 34)) (w.drew.alloc (.cells ((cs ++ vs).toArray ++ Builtin.zeroCells zS.cells (grownCap w (n+1) c 34 - (n+1))) 34)):=fun ty =>
  run_append_grow_src w 29 29 ty 34 i0 _ Tryz.underlying29 hi0 hz0 base n c cs hold _ 1 vs hsrc hroom (by omega) (by rw [hzb];exact growslice_fits hroom (by omega))
 clear hsrc hold hi0 hz0 hzs hzb
 go_enter Tryz.func42,Tryz.ntmps42
 cases base with
 | none =>
  have h0:=hnil rfl
  subst h0
  go_wp2_with (at_builtin;refine Lib.wpList_append_run _ rfl _ _ _ _ rfl _ _ rfl rfl _ _ (hrun _) ?_)
  go_ret
  exact ⟨rfl,rfl⟩
 | some a =>
  obtain ⟨ab,ao,asp⟩:=a
  go_wp2_with (at_builtin;refine Lib.wpList_append_run _ rfl _ _ _ _ rfl _ _ rfl rfl _ _ (hrun _) ?_)
  all_goals (go_ret;exact ⟨rfl,rfl⟩)

set_option maxHeartbeats 4000000 in
set_option maxRecDepth 100000 in
theorem ins_grow (b n c i vb vc:Nat) (cs vs:List Value) (w:World) (hi:i < n) (hnc:n≤c) (hroom:c < n+1) (hn1:n≤3000000)
 (hcl:cs.length=n * 2) (hvl:vs.length=2)
 (hcs:∀ j v,cs[j]?=some v→w.cell? ⟨b,j,none⟩=some v)
 (hvs:∀ j v,vs[j]?=some v→w.cell? ⟨vb,j,none⟩=some v) (h1c:∀ v∈cs,v.oneCell'=true) (h1v:∀ v∈vs,v.oneCell'=true) :
 Calls Tryz.prog 42 #[.slice (some ⟨b,0,none⟩) n c,.int .i64 i,.slice (some ⟨vb,0,none⟩) 1 vc] w fun e w' =>
  e=.returned (.slice (some ⟨w.heap.size,0,none⟩) (n+1) (grownCap w (n+1) c 34)) ∧
  w'=(((w.alloc (.cells ((cs.take (i * 2)).toArray ++ Builtin.zeroCells zS.cells (n+1 - i) ++ Builtin.zeroCells zS.cells (grownCap w (n+1) c 34 - (n+1))) 34)).drew.setCells w.heap.size (i * 2) vs).drew).setCells w.heap.size ((i+1) * 2) (cs.drop (i * 2)):=by
 have u29:=run_underlying Tryz.underlying29
 have mixed:Tryz.prog.follows .mixedOrders=true:=by kernel_rfl
 obtain ⟨i0,hi0,hz0,hzs,hzb⟩:=info_parts info34
 have hz2:¬ ((i:Int)=(n:Int)):=by omega
 have hz3:(c:Int) < (n:Int)+1:=by omega
 have hsz:(Tryz.prog.info? 34).map (·.size)=some 2:=by rw [hi0];simp [hzs]
 have hbw:b < w.heap.size:=block_lt_of_cell (hcs 0 _ (List.getElem?_eq_getElem (by omega)))
 have hvw:vb < w.heap.size:=block_lt_of_cell (hvs 0 _ (List.getElem?_eq_getElem (by omega)))
 have hkk:(n:Int)+1 - (i:Int)=((n+1 - i:Nat):Int):=by omega
 have hik:i+(n+1 - i)=n+1:=by omega
 have htk:(cs.take (i * 2)).length=i * 2:=by rw [List.length_take];omega
 have hold:(Builtin.firstCells i0.size i (.slice (some ⟨b,0,none⟩) i c)).run Tryz.prog w.drew=.ok (cs.take (i * 2)).toArray w.drew:=by
  rw [hzs]
  exact run_firstCells_some w.drew 2 i ⟨b,0,none⟩ i c (cs.take (i * 2)) htk (fun j v hj=>by
   rw [Addr.add_lit,Nat.zero_add]
   rw [List.getElem?_take] at hj
   split at hj
   ·exact hcs j v hj
   ·cases hj)
 have hrz:∀ ty,(Builtin.append_ #[29,3] ty #[.slice (some ⟨b,0,none⟩) i c,.int .i64 ((n:Int)+1 - (i:Int))]).run Tryz.prog w =
  .ok (.slice (some ⟨w.heap.size,0,none⟩) (n+1) (grownCap w (n+1) c 34)) (w.drew.alloc (.cells ((cs.take (i * 2)).toArray ++ Builtin.zeroCells zS.cells (n+1 - i) ++ Builtin.zeroCells zS.cells (grownCap w (n+1) c 34 - (n+1))) 34)):=fun ty=>by
  have h:=Lib.run_append_grow_zeros w 29 3 ty 34 i0 _ .i64 .i64 Tryz.underlying29 Tryz.underlying3 hi0 hz0 (some ⟨b,0,none⟩) i c (cs.take (i * 2)) hold (n+1 - i) (by omega) (by omega) (by omega) (by omega) (by rw [hzb];omega) (by rw [hzb,hik];exact growslice_fits hroom (by omega))
  rw [hik] at h
  rw [hkk]
  exact h
 obtain ⟨G,hG⟩:∃ G,G=grownCap w (n+1) c 34:=⟨_,rfl⟩
 obtain ⟨ROW,hROW⟩:∃ ROW:Array Value,ROW=(cs.take (i * 2)).toArray ++ Builtin.zeroCells zS.cells (n+1 - i) ++ Builtin.zeroCells zS.cells (G - (n+1)):=⟨_,rfl⟩
 rw [← hG] at hrz ⊢
 rw [← hROW] at hrz ⊢
 have hRl:(n+1) * 2≤ROW.size:=by
  rw [hROW]
  simp [Builtin.zeroCells,Value.cells,htk]
  omega
 obtain ⟨W1,hW1⟩:∃ W1,W1=w.drew.alloc (.cells ROW 34):=⟨_,rfl⟩
 rw [← hW1] at hrz
 have hN:∀ j,j < (n+1) * 2→(W1.cell? ⟨w.heap.size,j,none⟩).isSome=true:=fun j hj=>by
  rw [hW1,World.cell?_alloc_at (w:=w.drew) ROW _ w.heap.size j rfl,Array.getElem?_eq_getElem (by omega)];rfl
 have hNf:∀ j,W1.frozen? ⟨w.heap.size,j,none⟩=false:=fun j=>by rw [hW1];exact World.frozen?_alloc_at (w:=w.drew) ROW _ w.heap.size j rfl
 have hOb:∀ j v,w.cell? ⟨b,j,none⟩=some v→W1.cell? ⟨b,j,none⟩=some v:=fun j v h=>by rw [hW1,World.cell?_alloc_past (w:=w.drew) _ b j hbw];exact h
 have hOv:∀ j v,w.cell? ⟨vb,j,none⟩=some v→W1.cell? ⟨vb,j,none⟩=some v:=fun j v h=>by rw [hW1,World.cell?_alloc_past (w:=w.drew) _ vb j hvw];exact h
 have hcpA:∀ (W:World),(∀ x,W.cell? x=W1.cell? x)→(∀ x,W.frozen? x=W1.frozen? x)→∀ ty dc,(Builtin.copy_ #[29,29] ty #[.slice (some ⟨w.heap.size,i * 2,none⟩) (n+1 - i) dc,.slice (some ⟨vb,0,none⟩) 1 vc]).run Tryz.prog W=.ok (goInt (Nat.min 1 (n+1 - i))) (W.setCells w.heap.size (i * 2) vs):=fun W hWc hWf ty dc =>
  zkc W _ _ ty 34 2 w.heap.size (i * 2) (n+1 - i) dc ⟨vb,0,none⟩ 1 vc vs Tryz.underlying29 hsz (by rw [hvl];simp only [Nat.min_def];split <;> omega)
   (fun j v hj=>by rw [Addr.add_lit,hWc,Nat.zero_add];exact hOv _ v (hvs j v hj))
   (fun j hj=>by rw [hWc];exact hN _ (by omega)) (fun j hj=>by rw [hWf];exact hNf _) h1v
 have hGn:n+1≤G:=by rw [hG];exact grownCap_ge w _ _ _
 have hG63:G≤9223372036854775807:=by
  have:=grownCap_le_maxLen w (n+1) c 34 (by unfold maxLen;omega)
  rw [← hG] at this
  unfold maxLen at this
  omega
 have hGi:¬ (G=i):=by omega
 have hGim:¬ (G=i+1):=by omega
 have hci:¬ (c=i):=by omega
 have hbN:b≠w.heap.size:=by omega
 have hdl:(cs.drop (i * 2)).length=(n - i) * 2:=by rw [List.length_drop,hcl];omega
 have hcpB:∀ (W:World),(∀ x,W.cell? x=(W1.setCells w.heap.size (i * 2) vs).cell? x)→(∀ x,W.frozen? x=(W1.setCells w.heap.size (i * 2) vs).frozen? x)→∀ ty dc sc,(Builtin.copy_ #[29,29] ty #[.slice (some ⟨w.heap.size,(i+1) * 2,none⟩) (n - i) dc,.slice (some ⟨b,i * 2,none⟩) (n - i) sc]).run Tryz.prog W=.ok (goInt (Nat.min (n - i) (n - i))) (W.setCells w.heap.size ((i+1) * 2) (cs.drop (i * 2))):=fun W hWc hWf ty dc sc =>
  zkc W _ _ ty 34 2 w.heap.size ((i+1) * 2) (n - i) dc ⟨b,i * 2,none⟩ (n - i) sc (cs.drop (i * 2)) Tryz.underlying29 hsz (by rw [hdl];simp only [Nat.min_def];split <;> omega)
   (fun j v hj=>by
    rw [Addr.add_lit,hWc,World.cell?_setCells_out _ _ _ _ _ (fun h _=>absurd h hbN)]
    exact hOb _ v (hcs (i * 2+j) v (by rwa [List.getElem?_drop] at hj)))
   (fun j hj=>by rw [hWc];exact isSome_setCells _ _ _ _ (fun t ht=>hN _ (by omega)) _ (hN _ (by rw [hdl] at hj;omega)))
   (fun j hj=>by rw [hWf,World.frozen?_setCells];exact hNf _) (fun v hv=>h1c v (List.mem_of_mem_drop hv))
 subst hW1
 have hE1:∀ x,((w.alloc (.cells ROW 34)).drew).cell? x=(w.drew.alloc (.cells ROW 34)).cell? x:=fun x=>rfl
 have hE2:∀ x,((w.alloc (.cells ROW 34)).drew).frozen? x=(w.drew.alloc (.cells ROW 34)).frozen? x:=fun x=>rfl
 have hF1:∀ x,(((w.alloc (.cells ROW 34)).drew.setCells w.heap.size (i * 2) vs).drew).cell? x=((w.drew.alloc (.cells ROW 34)).setCells w.heap.size (i * 2) vs).cell? x:=fun x=>rfl
 have hF2:∀ x,(((w.alloc (.cells ROW 34)).drew.setCells w.heap.size (i * 2) vs).drew).frozen? x=((w.drew.alloc (.cells ROW 34)).setCells w.heap.size (i * 2) vs).frozen? x:=fun x=>rfl
 have hw1:IntKind.i64.wrap ((i:Int)+1)=(i:Int)+1:=by rw [IntKind.wrap_i64];omega
 have hb1:(0:Int)≤(i:Int)+1:=by omega
 have hin:i≤n:=by omega
 have htn:((i:Int)+1).toNat=i+1:=by omega
 have hb3:(i:Int)≤(n:Int):=by omega
 clear hkk hik hold hROW hG hRl
 go_enter Tryz.func42,Tryz.ntmps42
 go_wp2_with (first
  | (at_builtin;refine Lib.wpList_append_run _ rfl _ _ _ _ rfl _ _ rfl rfl _ _ (hrz _) ?_)
  | (at_builtin;refine wpList_copy_runI _ rfl _ _ 29 29 rfl _ _ rfl rfl (hcpA _ hE1 hE2 _ _) ?_)
  | (at_builtin;refine wpList_copy_runI _ rfl _ _ 29 29 rfl _ _ rfl rfl (hcpB _ (fun _=>rfl) (fun _=>rfl) _ _ _) ?_))
 go_region_law_o (refine step_copy_runI rfl _ _ 29 29 rfl (.slice (some ⟨w.heap.size,(i+1) * 2,none⟩) (n - i) (G - (i+1))) (.slice (some ⟨b,i * 2,none⟩) (n - i) (c - i)) (by simp [Act.eval,Act.put]) (by simp [Act.eval,Act.put]) (hcpB _ hF1 hF2 3 (G - (i+1)) (c - i)) ?_)
 go_wp2
 go_ret
 exact ⟨rfl,rfl⟩
end Go.Proofs


namespace Go.Proofs
open Go.Shelf Go.RowKit Go.Lib Go.Ev

theorem zrt {vs us:List Value} {n t:Nat} (hvl:vs.length=n * 2) (hul:us.length=2) (ht:t≤n * 2) (j:Nat) :
 (vs.take t ++ us ++ vs.drop t)[j]?=if j < t then vs[j]? else if j < t+2 then us[j - t]? else vs[j - 2]?:=by
 rcases Nat.lt_or_ge j t with h | h
 ·rw [if_pos h,List.append_assoc,List.getElem?_append_left (by rw [List.length_take];omega),List.getElem?_take,if_pos h]
 ·rw [if_neg (by omega)]
  rcases Nat.lt_or_ge j (t+2) with h2 | h2
  ·rw [if_pos h2,List.append_assoc,List.getElem?_append_right (by rw [List.length_take];omega),List.getElem?_append_left (by rw [List.length_take];omega),List.length_take,Nat.min_eq_left (by omega)]
  ·rw [if_neg (by omega),List.append_assoc,List.getElem?_append_right (by rw [List.length_take];omega),List.getElem?_append_right (by rw [List.length_take];omega),List.length_take,Nat.min_eq_left (by omega),List.getElem?_drop,hul]
   congr 1
   omega
theorem zhy (k:Nat):(Builtin.zeroCells zS.cells k).size=k * 2:=by simp [Builtin.zeroCells,Value.cells]

theorem poG42:PO Tryz.prog 42 (specO (X:=List TStructure × Int × List TStructure × Unit) fun x=>insF x.1 x.2.1 x.2.2.1):=by
 refine po_insert ⟨Tryz.f42,Tryz.func42,by kernel_rfl,by kernel_rfl⟩ (show 0 < 2 by decide) fun n i hi hn w base cap b2 c2 vs us hvl hul hcap h0 hrow hc2 hb2 hh2 h1 h2=>?_
 have hvl:vs.length=n * 2:=hvl
 have hul:us.length=2:=hul
 show Calls _ _ _ _ fun e w'=>∃ v,e=.returned v∧InsOK w w' base (i * 2) 2 n vs us v
 obtain ⟨arr2,e2,hh2,hs2,hu2⟩:=hh2
 have hs2:c2 * 2≤arr2.size:=hs2
 have hus:∀ j v,us[j]?=some v→w.cell? ⟨b2,j,none⟩=some v:=fun j v hj=>by
  unfold World.cell?
  simp only [hh2]
  simpa using hu2 j v hj
 rcases Nat.lt_or_ge i n with hlt | hge
 ·obtain ⟨b1,arr,e,rfl,hne,hb1,hh1,hs1,hv1⟩:=hrow (by omega)
  have hs1:cap * 2≤arr.size:=hs1
  have hvs:∀ j v,vs[j]?=some v→w.cell? ⟨b1,j,none⟩=some v:=fun j v hj=>by
   unfold World.cell?
   simp only [hh1]
   simpa using hv1 j v hj
  rcases Nat.lt_or_ge cap (n+1) with hr | hr
  ·refine (ins_grow b1 n cap i b2 c2 vs us w hlt hcap hr hn hvl hul hvs hus h1 h2).mono fun e' w' hh=>?_
   obtain ⟨rfl,rfl⟩:=hh
   refine ⟨_,rfl,?_⟩
   have hG:n+1≤grownCap w (n+1) cap 34:=grownCap_ge w _ _ _
   generalize grownCap w (n+1) cap 34=G at hG ⊢
   obtain ⟨ROW,hROW⟩:∃ ROW:Array Value,ROW=(vs.take (i * 2)).toArray ++ Builtin.zeroCells zS.cells (n+1 - i) ++ Builtin.zeroCells zS.cells (G - (n+1)):=⟨_,rfl⟩
   rw [← hROW]
   have hRs:ROW.size=G * 2:=by
    rw [hROW,Array.size_append,Array.size_append,zhy,zhy,List.size_toArray,List.length_take]
    omega
   have hR0:∀ j,j < i * 2→ROW[j]?=vs[j]?:=fun j hj=>by
    rw [hROW,Array.append_assoc,Array.getElem?_append_left (by rw [List.size_toArray,List.length_take];omega),List.getElem?_toArray,List.getElem?_take,if_pos hj]
   obtain ⟨k0,s0⟩:=zko w (.cells ROW 34)
   have hk0:Kept w ((w.alloc (.cells ROW 34)).drew):=k0
   have hs0:((w.alloc (.cells ROW 34)).drew).heap.size=w.heap.size+1:=s0
   have hh0:((w.alloc (.cells ROW 34)).drew).heap[w.heap.size]?=some (.cells ROW 34 (0,0)):=by
    show (w.heap.push _)[w.heap.size]?=_
    simp
   have ho0:∀ k,k < w.heap.size→((w.alloc (.cells ROW 34)).drew).heap[k]?=w.heap[k]?:=fun k hk=>by
    show (w.heap.push _)[k]?=_
    rw [Array.getElem?_push,if_neg (by omega)]
   generalize (w.alloc (.cells ROW 34)).drew=W0 at hk0 hs0 hh0 ho0 ⊢
   have hdl:(vs.drop (i * 2)).length=(n - i) * 2:=by rw [List.length_drop,hvl];omega
   obtain ⟨A1,a1,a2,a3⟩:=zfo w.heap.size 34 us (i * 2) W0 ROW hh0 (by rw [hRs,hul];omega)
   obtain ⟨A2,b1',b2',b3⟩:=zfo w.heap.size 34 (vs.drop (i * 2)) ((i+1) * 2) (W0.setCells w.heap.size (i * 2) us).drew A1 a1 (by rw [a2,hRs,hdl];omega)
   obtain ⟨q1,q2⟩:=zge W0 w.heap.size (i * 2) us
   obtain ⟨q3,q4⟩:=zge (W0.setCells w.heap.size (i * 2) us).drew w.heap.size ((i+1) * 2) (vs.drop (i * 2))
   have q1':Kept W0 (W0.setCells w.heap.size (i * 2) us).drew:=q1
   refine ⟨⟨_,_,A2,34,rfl,hG,b1',by omega,fun j hj=>?_,.inl (Nat.le_refl _)⟩,?_,(hk0.trans q1').trans q3,fun b hb _=>?_⟩
   ·have hj2:j < (n+1) * 2:=by
     rcases Nat.lt_or_ge j ((n+1) * 2) with h | h
     ·exact h
     ·exfalso
      apply hj
      rw [List.getElem?_eq_none_iff,List.length_append,List.length_append,List.length_take,List.length_drop]
      omega
    rw [zrt hvl hul (by omega),b3 j,a3 j,hdl,hul]
    rcases Nat.lt_or_ge j (i * 2) with c1 | c1
    ·rw [if_neg (by omega),if_neg (by omega),if_pos c1,hR0 j c1]
    ·rcases Nat.lt_or_ge j (i * 2+2) with c3 | c3
     ·rw [if_neg (by omega),if_pos (by omega),if_neg (by omega),if_pos c3]
     ·rw [if_pos (by omega),if_neg (by omega),if_neg (by omega),List.getElem?_drop]
      congr 1
      omega
   ·rw [q4]
    show _≤(W0.setCells w.heap.size (i * 2) us).heap.size
    rw [q2,hs0]
    omega
   ·rw [zcq _ _ (by omega)]
    show (W0.setCells w.heap.size (i * 2) us).heap[b]?=_
    rw [zcq _ _ (by omega),ho0 b hb]
  ·refine (ins_shift b1 n cap i b2 c2 vs us w hlt hr hn (Ne.symm hne) hvl hul hvs (fun j hj=>?_) (fun j hj=>?_) hus h1 h2 e2 e arr2.size arr.size ?_ ?_ (by omega) ?_ ?_).mono fun e' w' hh=>?_
   ·unfold World.cell?
    simp only [hh1]
    have:j < arr.size:=by omega
    simp [this]
   ·simp [World.frozen?,hh1]
   ·simp [World.shape?,hh2]
   ·simp [World.shape?,hh1]
   ·simp [World.frozen?,hh2]
   ·simp [World.frozen?,hh2]
   ·obtain ⟨rfl,rfl⟩:=hh
    refine ⟨_,rfl,?_⟩
    have hdl:(vs.drop (i * 2)).length=(n - i) * 2:=by rw [List.length_drop,hvl];omega
    have hh1':w.drew.heap[b1]?=some (.cells arr e (0,0)):=hh1
    obtain ⟨A1,a1,a2,a3⟩:=zfo b1 e (vs.drop (i * 2)) ((i+1) * 2) w.drew arr hh1' (by rw [hdl];omega)
    obtain ⟨A2,b1',b2',b3⟩:=zfo b1 e us (i * 2) _ A1 a1 (by rw [a2,hul];omega)
    obtain ⟨q1,q2⟩:=zge w.drew b1 ((i+1) * 2) (vs.drop (i * 2))
    obtain ⟨q3,q4⟩:=zge (w.drew.setCells b1 ((i+1) * 2) (vs.drop (i * 2))) b1 (i * 2) us
    have q1':Kept w (w.drew.setCells b1 ((i+1) * 2) (vs.drop (i * 2))):=q1
    refine ⟨⟨_,_,A2,e,rfl,hr,b1',by omega,fun j hj=>?_,.inr ⟨by omega,rfl⟩⟩,?_,q1'.trans q3,fun b hb hne2=>?_⟩
    ·have hj2:j < (n+1) * 2:=by
      rcases Nat.lt_or_ge j ((n+1) * 2) with h | h
      ·exact h
      ·exfalso
       apply hj
       rw [List.getElem?_eq_none_iff,List.length_append,List.length_append,List.length_take,List.length_drop]
       omega
     rw [zrt hvl hul (by omega),b3 j,a3 j,hdl,hul]
     rcases Nat.lt_or_ge j (i * 2) with c1 | c1
     ·rw [if_neg (by omega),if_neg (by omega),if_pos c1,hv1 j vs[j] (List.getElem?_eq_getElem (by omega)),List.getElem?_eq_getElem (by omega)]
     ·rcases Nat.lt_or_ge j (i * 2+2) with c3 | c3
      ·rw [if_pos (by omega),if_neg (by omega),if_pos c3]
      ·rw [if_neg (by omega),if_pos (by omega),if_neg (by omega),if_neg (by omega),List.getElem?_drop]
       congr 1
       omega
    ·rw [q4,q2]
     exact Nat.le_refl _
    ·have hbb:b≠b1:=fun h=>hne2 (by omega) (by rw [h])
     rw [zcq _ _ hbb,zcq _ _ hbb]
     rfl
 ·obtain rfl:i=n:=by omega
  rcases Nat.lt_or_ge cap (i+1) with hr | hr
  ·refine (ins_end_grow base i cap b2 c2 vs us w hcap hr hn hvl hul (fun hb=>?_) (fun a ha j v hj=>?_) hus h2).mono fun e' w' hh=>?_
   ·rcases Nat.eq_zero_or_pos i with h | h
    ·exact h
    ·obtain ⟨b1,arr,e,h3,_⟩:=hrow h
     rw [hb] at h3;cases h3
   ·have hj':=(List.getElem?_eq_some_iff.1 hj).1
    obtain ⟨b1,arr,e,h3,_,_,h4,_,h5⟩:=hrow (by omega)
    rw [ha] at h3
    cases h3
    rw [Addr.add_lit,Nat.zero_add]
    unfold World.cell?
    simp only [h4]
    simpa using h5 j v hj
   ·obtain ⟨rfl,rfl⟩:=hh
    refine ⟨_,rfl,?_⟩
    have hG:i+1≤grownCap w (i+1) cap 34:=grownCap_ge w _ _ _
    generalize grownCap w (i+1) cap 34=G at hG ⊢
    obtain ⟨ROW,hROW⟩:∃ ROW:Array Value,ROW=(vs ++ us).toArray ++ Builtin.zeroCells zS.cells (G - (i+1)):=⟨_,rfl⟩
    rw [← hROW]
    have hRs:ROW.size=G * 2:=by
     rw [hROW,Array.size_append,zhy,List.size_toArray,List.length_append]
     omega
    obtain ⟨k0,s0⟩:=zko w (.cells ROW 34)
    refine ⟨⟨_,_,ROW,34,rfl,hG,?_,by omega,fun j hj=>?_,.inl (Nat.le_refl _)⟩,by rw [s0];omega,k0,fun b hb _=>?_⟩
    ·show (w.heap.push _)[w.heap.size]?=_
     simp
    ·have e1:vs.take (i * 2) ++ us ++ vs.drop (i * 2)=vs ++ us:=by rw [List.take_of_length_le (by omega),List.drop_eq_nil_of_le (by omega),List.append_nil]
     rw [e1] at hj ⊢
     have hj2:j < (vs ++ us).length:=by
      rcases Nat.lt_or_ge j (vs ++ us).length with h | h
      ·exact h
      ·exact absurd (List.getElem?_eq_none h) hj
     rw [hROW,Array.getElem?_append_left (by simpa using hj2),List.getElem?_toArray]
    ·show (w.heap.push _)[b]?=_
     rw [Array.getElem?_push,if_neg (by omega)]
  ·rcases Nat.eq_zero_or_pos i with hz | hp
   ·have:=h0 hz;omega
   ·obtain ⟨b1,arr,e,rfl,hne,hb1,hh1,hs1,hv1⟩:=hrow hp
    have hs1:cap * 2≤arr.size:=hs1
    refine (ins_end_room b1 i cap b2 c2 us w hr hn hul (fun j hj=>?_) (fun j hj=>?_) hus h2).mono fun e' w' hh=>?_
    ·unfold World.cell?
     simp only [hh1]
     have h6:0+i * 2+j < arr.size:=by omega
     show (arr[0+i * 2+j]?).isSome=true
     rw [Array.getElem?_eq_getElem h6]
     rfl
    ·simp [World.frozen?,hh1]
    ·obtain ⟨rfl,rfl⟩:=hh
     refine ⟨_,rfl,?_⟩
     obtain ⟨A1,a1,a2,a3⟩:=zfo b1 e us (0+i * 2) w arr hh1 (by rw [hul];omega)
     obtain ⟨q1,q2⟩:=zge w b1 (0+i * 2) us
     refine ⟨⟨_,_,A1,e,rfl,hr,a1,by omega,fun j hj=>?_,.inr ⟨hp,rfl⟩⟩,by rw [q2];exact Nat.le_refl _,q1,fun b hb hne2=>?_⟩
     ·have hj2:j < (i+1) * 2:=by
       rcases Nat.lt_or_ge j ((i+1) * 2) with h | h
       ·exact h
       ·exfalso
        apply hj
        rw [List.getElem?_eq_none_iff,List.length_append,List.length_append,List.length_take,List.length_drop]
        omega
      rw [zrt hvl hul (by omega),a3 j,hul]
      rcases Nat.lt_or_ge j (i * 2) with c1 | c1
      ·rw [if_neg (by omega),if_pos c1,hv1 j vs[j] (List.getElem?_eq_getElem (by omega)),List.getElem?_eq_getElem (by omega)]
      ·rw [if_pos (by omega),if_neg (by omega),if_pos (by omega),Nat.zero_add]
     ·have hbb:b≠b1:=fun h=>hne2 hp (by rw [h])
      rw [zcq _ _ hbb]
end Go.Proofs


namespace Go.Proofs
open Go.Ev Go.RowKit Go.Lib Go.Sort
def C123:List AV→Option AV:=specP (X:=Int × Unit) fun x=>zbp x.1
theorem zsl {n:Int} {y} (h:zbp n=some y):C123 [av .shr n]=some (Res.res y):=zaf (X:=Int × Unit) (F:=fun x=>zbp x.1) (x:=(n,())) h
theorem pc123:PC Tryz.prog 123 C123:=pcG123

def C87:List AV→Option AV:=specP (X:=List ByteArray × ByteArray × Unit) fun x=>zft x.1 x.2.1
theorem C87_eq {l:List ByteArray} {s:ByteArray} {y} (h:zft l s=some y):C87 [av .shr l,av .shr s]=some (Res.res y):=zaf (X:=List ByteArray × ByteArray × Unit) (F:=fun x=>zft x.1 x.2.1) (x:=(l,s,())) h
theorem pc87:PC Tryz.prog 87 C87:=pcG87

theorem INFO3:(Tryz.prog.info? 3).map (fun i=>(i.zero,i.size,i.bytes))=some (some (.int .i64 0),1,8):=by kernel_rfl
set_option maxHeartbeats 2000000 in
set_option maxRecDepth 100000 in
theorem clone77_nil (n c:Nat) (w:World):Calls Tryz.prog 77 #[.slice none n c] w fun e w'=>e=.returned (.slice none 0 0)∧w'=w:=by
 have q24:∀ (w:World) (a:Option Addr) (n c n' c':Nat),(binOp .eql 24 (.slice a n c) (.slice none n' c')).run Tryz.prog w=.ok (.bool a.isNone) w:=fun w a n c n' c'=>Lib.run_eql_slice_nil w _ _ a n c n' c' Tryz.underlying24
 go_enter Tryz.func77,Tryz.ntmps77
 go_wp2
 go_ret
 exact ⟨rfl,rfl⟩

set_option maxHeartbeats 2000000 in
set_option maxRecDepth 100000 in
theorem clone77_zero (a:Addr) (c:Nat) (w:World) :
 Calls Tryz.prog 77 #[.slice (some a) 0 c] w fun e w'=>∃ b,e=.returned (.slice b 0 0)∧w'=w.alloc (.cells #[] 3):=by
 have q24:∀ (w:World) (a:Option Addr) (n c n' c':Nat),(binOp .eql 24 (.slice a n c) (.slice none n' c')).run Tryz.prog w=.ok (.bool a.isNone) w:=fun w a n c n' c'=>Lib.run_eql_slice_nil w _ _ a n c n' c' Tryz.underlying24
 go_enter Tryz.func77,Tryz.ntmps77
 go_wp2
 go_ret
 exact ⟨_,rfl,rfl⟩

set_option maxHeartbeats 2000000 in
set_option maxRecDepth 100000 in
theorem clone77_row (b off n c:Nat) (vs:List Value) (w:World) (hlen:vs.length=n * 1) (hbig:n * 8≤140737488355328) (hsc:∀ u∈vs,scal u=true) (hc:∀ j u,vs[j]?=some u→w.cell? ⟨b,off+j,none⟩=some u) :
 Calls Tryz.prog 77 #[.slice (some ⟨b,off,none⟩) n c] w fun e w'=>∃ v',e=.returned v'∧w'.ownsRow w.heap.size 3 1 v' n vs∧Below w.heap.size w w':=by
 obtain ⟨i0,hi,hz0,hz1,hz2⟩:=info_parts INFO3
 have q24:∀ (w:World) (a:Option Addr) (n c n' c':Nat),(binOp .eql 24 (.slice a n c) (.slice none n' c')).run Tryz.prog w=.ok (.bool a.isNone) w:=fun w a n c n' c'=>Lib.run_eql_slice_nil w _ _ a n c n' c' Tryz.underlying24
 have u24:∀ w,Sem.run Tryz.prog (underlying 24) w=.ok (TypeDesc.slice 3) w:=run_underlying Tryz.underlying24
 have A:Aside (∀ j u,vs[j]?=some u→w.cell? ⟨b,off+j,none⟩=some u):=hc
 clear hc
 go_enter Tryz.func77,Tryz.ntmps77
 go_wp2_with (at_builtin;refine wpList_append_own _ rfl _ _ 24 rfl w.heap.size 3 i0 (.int .i64 0) 1 8 Tryz.underlying24 hi hz0 hz1 hz2 rfl (by decide) _ _ _ rfl (World.ownsRow_made w #[] 0 (Nat.le_refl _) (Nat.zero_le _) rfl) ⟨b,off,none⟩ n c vs rfl ?qc1 ?qc2 ?qc3 ?qc4 ?qc5 ?qc6 ?_)
 case qc1=>exact hlen
 case qc2 =>
  intro j u hj
  rw [Addr.add_lit]
  exact Lib.cell?_alloc_some _ (A.out j u hj)
 case qc3 =>
  intro u hu
  have:=hsc u hu
  cases u <;> first | rfl | cases this
 case qc4=>unfold maxLen;omega
 case qc5=>omega
 case qc6=>simp
 intro v' w1 hown hgrow hnil
 go_wp2
 go_ret
 refine ⟨_,rfl,by simpa using hown,?_⟩
 refine ⟨hgrow.os,hgrow.tape,hgrow.output,?_,fun k hk=>?_⟩
 ·have:=hgrow.size;rw [World.size_alloc] at this;omega
 ·rw [hgrow.block k (by rw [World.size_alloc];omega) (by simp [Value.ownBlock];omega),zgg w _ hk]

def C77:List AV→Option AV:=specP (X:=List Int × Unit) fun x=>zci x.1
theorem C77_eq {s:List Int} {y} (h:zci s=some y):C77 [av .shr s]=some (Res.res y):=zaf (X:=List Int × Unit) (F:=fun x=>zci x.1) (x:=(s,())) h
theorem pc77:PC Tryz.prog 77 C77 :=
 pc_clone (α:=Int) (e:=3) (bytes:=8) ⟨Tryz.f77,Tryz.func77,by kernel_rfl,by kernel_rfl⟩ clone77_nil
  (fun a c w=>(clone77_zero a c w).mono fun e w' h=>by
   obtain ⟨b,rfl,rfl⟩:=h
   exact ⟨b,rfl,rfl,rfl,rfl,by rw [World.size_alloc];omega,fun k hk=>zgg w _ hk⟩)
  clone77_row

def C140:List AV→Option AV:=specP (X:=Int × Unit) fun x=>zho x.1
theorem C140_eq {n:Int} {y} (h:zho n=some y):C140 [av .shr n]=some (Res.res y):=zaf (X:=Int × Unit) (F:=fun x=>zho x.1) (x:=(n,())) h
theorem pc140:PC Tryz.prog 140 C140:=pcG140

def C141:List AV→Option AV:=specP (X:=List ByteArray × ByteArray × Unit) fun x=>strings_Join x.1 x.2.1
theorem C141_eq {l:List ByteArray} {s:ByteArray} {y} (h:strings_Join l s=some y):C141 [av .shr l,av .shr s]=some (Res.res y):=zaf (X:=List ByteArray × ByteArray × Unit) (F:=fun x=>strings_Join x.1 x.2.1) (x:=(l,s,())) h
theorem pc141:PC Tryz.prog 141 C141:=pcG141

def C42:List AV→Option AV:=specO (X:=List TStructure × Int × List TStructure × Unit) fun x=>zba x.1 x.2.1 x.2.2.1
theorem C42_eq {l:List TStructure} {i:Int} {v:List TStructure} {y} (h:zba l i v=some y):C42 [av .own l,av .own i,av .own v]=some (Res.res y):=specO_eq (X:=List TStructure × Int × List TStructure × Unit) (F:=fun x=>zba x.1 x.2.1 x.2.2.1) (x:=(l,i,v,())) h
theorem po42:PO Tryz.prog 42 C42:=poG42

set_option maxHeartbeats 4000000 in
set_option maxRecDepth 100000 in
theorem grow159_zero (w:World):Calls Tryz.prog 159 #[.slice none 0 0,.int .i64 0] w fun e w'=>e=.returned (.slice none 0 0)∧w'=w:=by
 have u24:∀ w,Sem.run Tryz.prog (underlying 24) w=.ok (TypeDesc.slice 3) w:=run_underlying Tryz.underlying24
 go_enter Tryz.func159,Tryz.ntmps159
 go_wp2
 go_ret
 exact ⟨rfl,rfl⟩

set_option maxHeartbeats 4000000 in
set_option maxRecDepth 100000 in
theorem grow159_pos (n:Nat) (w:World) (h0:0 < n) (hbig:n * 8≤140737488355328) :
 Calls Tryz.prog 159 #[.slice none 0 0,.int .i64 n] w fun e w'=>∃ v,e=.returned v∧w'.ownsRow w.heap.size 3 1 v 0 []∧Below w.heap.size w w':=by
 obtain ⟨i0,hi,hz0,hz1,hz2⟩:=info_parts INFO3
 have u24:∀ w,Sem.run Tryz.prog (underlying 24) w=.ok (TypeDesc.slice 3) w:=run_underlying Tryz.underlying24
 have hrz:=fun ty=>run_append_grow_zeros (P:=Tryz.prog) w 24 3 ty 3 i0 (.int .i64 0) .i64 .i64 Tryz.underlying24 Tryz.underlying3 hi hz0 none 0 0 [] (run_firstCells_none w.drew i0.size 0 0 0) n h0 (by omega) (by omega) (by omega) (by rw [hz2];omega)
  (by rw [hz2];exact growslice_fits (by omega) (by omega))
 have hGn:0+n≤grownCap w (0+n) 0 3:=grownCap_ge w _ _ _
 have hGm:=grownCap_le_maxLen w (0+n) 0 3 (by unfold maxLen;omega)
 obtain ⟨G,hG⟩:∃ G,G=grownCap w (0+n) 0 3:=⟨_,rfl⟩
 rw [← hG] at hrz hGn hGm
 have A:Aside (G≤maxLen):=hGm
 clear hG hGm
 simp only [Nat.zero_add] at hrz hGn
 have h1:¬ ((n:Int) < 0):=by omega
 have h2:((n:Int) > 0):=by omega
 have h3:wrap64 (n:Int)=n:=by unfold wrap64;omega
 have h4:G≤9223372036854775807:=by have:=A.out;unfold maxLen at this;omega
 have B:Aside (i0.size=1):=hz1
 clear hz1 hz2
 go_enter Tryz.func159,Tryz.ntmps159
 go_wp2_with (at_builtin;refine Lib.wpList_append_run _ rfl _ _ _ _ rfl _ _ rfl rfl _ _ (hrz _) ?_)
 all_goals (go_ret;refine ⟨_,rfl,⟨rfl,.inr ⟨_,_,_,rfl,Nat.le_refl _,zhv _ _,Nat.zero_le _,A.out,?_,by simp⟩⟩,rfl,rfl,rfl,by (show w.heap.size≤(w.heap.push _).size);rw [Array.size_push];omega,fun k hk=>zgg _ _ hk⟩)
 all_goals (simp [Builtin.zeroCells];omega)

theorem grow159 (n:Nat) (w:World) (hbig:n * 8≤140737488355328) :
 Calls Tryz.prog 159 #[.slice none 0 0,.int .i64 n] w fun e w'=>∃ v,e=.returned v∧w'.ownsRow w.heap.size 3 1 v 0 []∧(n=0→v=.slice none 0 0)∧Below w.heap.size w w':=by
 rcases Nat.eq_zero_or_pos n with rfl | hn
 ·refine (grow159_zero w).mono fun e w' h=>?_
  obtain ⟨rfl,rfl⟩:=h
  exact ⟨_,rfl,⟨rfl,.inl ⟨rfl,rfl⟩⟩,fun _=>rfl,Below.refl _ _⟩
 ·refine (grow159_pos n w hn hbig).mono fun e w' h=>?_
  obtain ⟨v,rfl,h1,h2⟩:=h
  exact ⟨v,rfl,h1,fun h0=>by omega,h2⟩

set_option maxHeartbeats 8000000 in
set_option maxRecDepth 1000000 in
theorem concat143 (xa:Option Addr) (xb xo N xc:Nat) (ra:Nat→Option Addr) (nn rc:Nat→Nat) (ne:Nat→List Value) (w:World) (hxa:0 < N→xa=some ⟨xb,xo,none⟩) (hN:Hid (N≤maxLen))
 (hc:Aside (∀ j,j < N→w.cell? ⟨xb,xo+j,none⟩=some (.slice (ra j) (nn j) (rc j)))) (hr:Aside (∀ j,j < N→RowAt w 1 (ra j) (nn j) (ne j))) (hbig:Aside (tot nn N * 8≤140737488355328)) :
 Calls Tryz.prog 143 #[.slice xa N xc] w fun e w'=>∃ v,e=.returned v∧w'.ownsRow w.heap.size 3 1 v (tot nn N) (cat ne N)∧(tot nn N=0→v=.slice none 0 0)∧Below w.heap.size w w':=by
 obtain ⟨i0,hi,hz0,hz1,hz2⟩:=info_parts INFO3
 have B:Aside (i0.size=1∧i0.bytes=8):=⟨hz1,hz2⟩
 clear hz1 hz2
 go_enter Tryz.func143,Tryz.ntmps143
 go_wp2
 go_loopg [3,11] N (fun k s c wr=>∃ j,k=N - j∧j≤N∧s=.int .i64 (tot nn j:Nat)∧c=.int .i64 j∧w=wr)
 case atStart=>exact ⟨0,rfl,Nat.zero_le _,rfl,rfl,rfl⟩
 case round =>
  obtain ⟨j,hk,hj,rfl,rfl,rfl⟩:=hrel
  by_cases hlt:j < N
  ·obtain rfl:=hxa (by omega)
   have hx:=hc.out j hlt
   have hlt':(j:Int) < (N:Int):=by omega
   have hw:wrap64 ((tot nn j:Int)+(nn j:Int))=((tot nn (j+1):Nat):Int):=by
    have:=zle nn (i:=j+1) (j:=N) (by omega)
    have:=hbig.out
    exact zqq (by simp only [tot] at *; unfold maxLen;omega)
   have hneg:¬ (((tot nn (j+1):Nat):Int) < 0):=by omega
   go_wp2
   go_roundg (N - (j+1))
   case measure=>omega
   case rel=>exact ⟨j+1,rfl,by omega,rfl,by simp;exact zqq (a:=j) (b:=1) (by have:=hN.out;omega),rfl⟩
  ·obtain rfl:j=N:=by omega
   have hg:=grow159 (tot nn j) w hbig.out
   go_wp2_with (go_at_call 159;refine hg.mono ?_;rintro e w' ⟨v,rfl,hown,hnil,hbel⟩)
   clear hg
   go_loopg [6,27] j (fun k d c wq=>∃ i,k=j - i∧i≤j∧c=.int .i64 i∧wq.ownsRow w.heap.size 3 1 d (tot nn i) (cat ne i)∧(tot nn j=0→d=.slice none 0 0)∧Below w.heap.size w wq)
   case atStart=>exact ⟨0,rfl,Nat.zero_le _,rfl,hown,hnil,hbel⟩
   case round =>
    obtain ⟨i,hk,hi2,rfl,hown2,hnil2,hbel2⟩:=hrel
    by_cases hlt2:i < j
    ·obtain rfl:=hxa (by omega)
     have hx:wr.cell? ⟨xb,xo+i,none⟩=some (.slice (ra i) (nn i) (rc i)):=by
      have:=hc.out i hlt2
      rw [← this]
      exact World.cell?_of_block (hbel2.block xb (World.block_lt_of_cell? _ _ this))
     obtain ⟨v2,w2,hrun,hown3,hgr,hnil3⟩:=znl (P:=Tryz.prog) w.heap.size 24 24 3 i0 (.int .i64 0) 1 8 Tryz.underlying24 hi hz0 B.out.1 B.out.2 rfl (by decide) _ _ _ hown2 (ra i) (nn i) (rc i) (ne i) (hr.out i hlt2) hbel2.block
      (by have:=zle nn (i:=i+1) (j:=j) (by omega);have:=hbig.out;simp only [tot] at *; unfold maxLen;omega) (by have:=zle nn (i:=i+1) (j:=j) (by omega);have:=hbig.out;simp only [tot] at *; omega) hbel2.size
     have hbel3:Below w.heap.size w w2:=by
      refine hbel2.trans ⟨hgr.os,hgr.tape,hgr.output,hgr.size,fun k hk=>hgr.block k (Nat.lt_of_lt_of_le hk hbel2.size) fun he=>?_⟩
      rcases hown2.2 with ⟨h1,_⟩|⟨g,cap,cur,h1,h2,_⟩
      ·rw [h1] at he;simp [Value.ownBlock] at he
      ·rw [h1] at he;simp [Value.ownBlock] at he;omega
     have hnil4:tot nn j=0→v2=.slice none 0 0:=fun h0=>by
      have:=zle nn (i:=i+1) (j:=j) (by omega)
      rw [hnil3 (by simp only [tot] at *; omega),hnil2 h0]
     have hlt3:(i:Int) < (j:Int):=by omega
     have H:Aside (w2.ownsRow w.heap.size 3 1 v2 (tot nn (i+1)) (cat ne (i+1))∧(tot nn j=0→v2=.slice none 0 0)∧Below w.heap.size w w2):=⟨hown3,hnil4,hbel3⟩
     clear hown3 hnil4 hbel3 hnil3 hgr hown2 hnil2 hbel2 hown hnil hbel
     go_wp2_with (at_builtin;refine Lib.wpList_append_run _ rfl _ _ _ _ rfl _ _ rfl rfl _ _ hrun ?_)
     go_roundg (j - (i+1))
     case measure=>omega
     case rel=>exact ⟨i+1,rfl,by omega,by simp;exact zqq (a:=i) (b:=1) (by have:=hN.out;omega),H.out.1,H.out.2⟩
    ·obtain rfl:i=j:=by omega
     go_wp2
     go_ret
     exact ⟨_,rfl,hown2,hnil2,hbel2⟩

def C143:List AV→Option AV:=specP (X:=List (List Int) × Unit) fun x=>zdo x.1
theorem C143_eq {s:List (List Int)} {y} (h:zdo s=some y):C143 [av .shr s]=some (Res.res y):=zaf (X:=List (List Int) × Unit) (F:=fun x=>zdo x.1) (x:=(s,())) h
theorem pc143:PC Tryz.prog 143 C143 :=
 pc_concat (α:=Int) (e:=3) (bytes:=8) ⟨Tryz.f143,Tryz.func143,by kernel_rfl,by kernel_rfl⟩
  fun xa xb xo N xc ra nn rc ne w h1 h2 h3 h4 h5=>concat143 xa xb xo N xc ra nn rc ne w h1 h2 h3 h4 h5
end Go.Proofs


namespace Go.Proofs
open Go.Ev
open Enc (enc)
abbrev G46 (g:Cfg):Prop:=Has Tryz.prog g 46 Tryz.f46 [] [(2,rowKp)] [] []
set_option maxHeartbeats 4000000 in
set_option maxRecDepth 100000 in
theorem mk46 {g:Cfg} (G:G46 g):MkOK g 46 false zae:=by
 have gP:=G.P;have gt:=G.tk;have gr:=G.ro;have gg:=G.gh
 refine zip fun xs k d e r mem hx hd hT hR=>?_
 have hl:xs.length≤9223372036854775806:=by have:=hx.1;omega
 refine zoc (Tryz.f46.body.getD .skip) [.tmp 4] G Tryz.func46 (by kernel_rfl) (by simp [Tryz.ntmps46]) rfl ?_
 simp [Tryz.f46,gP,gt,gr,gg]
 refine zlw zel xs k d r mem (G.kp (2,rowKp) (by simp)) (by simp) (by simp) (by simp) hR (MemU.refl _ _ _) hl ?_ ?_ ?_
 ·intro i A B x k' σ' hx2 hi hi2 hA e0 e1 e5 R0 M0
  have hxl:=hx.2 x hx2
  have hlt:ltI (i:Int) (xs.length:Int)=true:=by simpa [ltI] using hi
  have hinc:addI (i:Int) 1=((i+1:Nat):Int):=zam (by omega) (by omega)
  have R0:RowI σ'.mem d r (A ++ ((.sc (.int .i64 x)) :: B)):=R0
  have C0:=R0.1
  obtain ⟨P0,hP0⟩:∃ P:List D,P=A ++ []:=⟨_,rfl⟩
  have l0:P0.length=i:=by rw [hP0,List.length_append,hA];simp
  have q0:A ++ ((.sc (.int .i64 x)) :: B)=P0 ++ ((.sc (.int .i64 x)) :: (B)):=by rw [hP0,List.append_assoc];rfl
  obtain ⟨w1,R1,M1'⟩:=zol (v':=.int .i64 k') q0 R0
  have q0':P0 ++ (.sc (.int .i64 k') :: (B))=A ++ ((.sc (.int .i64 k')) :: B):=by rw [hP0,List.append_assoc];rfl
  rw [q0'] at w1 R1 M1'
  rw [l0] at w1
  have M1:=M0.trans M1'
  have h0:i+1≤(bxL d r 0 (A ++ ((.sc (.int .i64 x)) :: B))).length:=by rw [zdv,q0,List.length_append,List.length_cons,l0];omega
  simp [gP,gt,gr,gg,e0,e1,e5,hlt,hinc,hi,C0,w1,h0]
  exact ⟨_,rfl,by simp [e0],by simp [zel],by simp,R1,M1⟩
 ·intro z k' σ' e0 e1 e5
  have hlt:ltI (xs.length:Int) (xs.length:Int)=false:=by simp [ltI]
  simp [gP,gt,gr,gg,e0,e1,e5,hlt]
  exact ⟨_,rfl,by simp [e1],rfl⟩
 ·intro σ' e1 eR eM
  have hT2:memKill (fun k=>decide (e < k.1)) σ'.mem=σ'.mem:=eM.tight hd hT
  simp [gP,gt,gr,gg,e1,Goal,FnEndM,hT2]
  exact ⟨_,_,⟨rfl,rfl⟩,rfl,eM,eR⟩

abbrev G45 (g:Cfg):Prop:=Has Tryz.prog g 45 Tryz.f45 [] [(2,rowKp)] [] []
set_option maxHeartbeats 4000000 in
set_option maxRecDepth 100000 in
theorem mk45 {g:Cfg} (G:G45 g) (G_46:G46 g):MkOK g 45 false zaj:=by
 have gP:=G.P;have gt:=G.tk;have gr:=G.ro;have gg:=G.gh
 have i_46:=G_46.no
 refine zip fun xs k d e r mem hx hd hT hR=>?_
 have hl:xs.length≤9223372036854775806:=by have:=hx.1;omega
 refine zoc (Tryz.f45.body.getD .skip) [.tmp 4] G Tryz.func45 (by kernel_rfl) (by simp [Tryz.ntmps45]) rfl ?_
 simp [Tryz.f45,gP,gt,gr,gg]
 refine zlw zdx xs k d r mem (G.kp (2,rowKp) (by simp)) (by simp) (by simp) (by simp) hR (MemU.refl _ _ _) hl ?_ ?_ ?_
 ·intro i A B x k' σ' hx2 hi hi2 hA e0 e1 e5 R0 M0
  have hxl:=hx.2 x hx2
  have hlt:ltI (i:Int) (xs.length:Int)=true:=by simpa [ltI] using hi
  have hinc:addI (i:Int) 1=((i+1:Nat):Int):=zam (by omega) (by omega)
  have R0:RowI σ'.mem d r (A ++ ((.sl x.vars.length (encL x.vars)) :: (.sl x.reach.length (encL x.reach)) :: (.sc (.int .i64 x.shared)) :: (.sc (.int .i64 x.many)) :: B)):=R0
  have C0:=R0.1
  obtain ⟨P0,hP0⟩:∃ P:List D,P=A ++ []:=⟨_,rfl⟩
  have l0:P0.length=i * 4:=by rw [hP0,List.length_append,hA];simp
  have q0:A ++ ((.sl x.vars.length (encL x.vars)) :: (.sl x.reach.length (encL x.reach)) :: (.sc (.int .i64 x.shared)) :: (.sc (.int .i64 x.many)) :: B)=P0 ++ ((.sl x.vars.length (encL x.vars)) :: ((.sl x.reach.length (encL x.reach)) :: (.sc (.int .i64 x.shared)) :: (.sc (.int .i64 x.many)) :: B)):=by rw [hP0,List.append_assoc];rfl
  have s0:=zpw (d:=d) (r:=r) q0 l0
  simp only [bxC] at s0
  simp [gP,gt,gr,gg,e0,e1,e5,hlt,hinc,hi,i_46,C0,s0]
  obtain ⟨m1,hc1,R1,M1'⟩:=zkd (mk46 G_46 x.vars k' hxl.1) q0 (show d≤e+1 by omega) (M0.tight hd hT).up R0
  refine zgb _ _ rfl hc1 ?_
  have R1:RowI m1 d r (A ++ ((.sl ((zae x.vars k').1).length (encL ((zae x.vars k').1))) :: (.sl x.reach.length (encL x.reach)) :: (.sc (.int .i64 x.shared)) :: (.sc (.int .i64 x.many)) :: B)):=by rw [hP0,List.append_assoc] at R1;exact R1
  have M1:=M0.trans M1'
  have C1:=R1.1
  obtain ⟨P1,hP1⟩:∃ P:List D,P=A ++ [.sl ((zae x.vars k').1).length (encL ((zae x.vars k').1))]:=⟨_,rfl⟩
  have l1:P1.length=i * 4+1:=by rw [hP1,List.length_append,hA];simp
  have q1:A ++ ((.sl ((zae x.vars k').1).length (encL ((zae x.vars k').1))) :: (.sl x.reach.length (encL x.reach)) :: (.sc (.int .i64 x.shared)) :: (.sc (.int .i64 x.many)) :: B)=P1 ++ ((.sl x.reach.length (encL x.reach)) :: ((.sc (.int .i64 x.shared)) :: (.sc (.int .i64 x.many)) :: B)):=by rw [hP1,List.append_assoc];rfl
  have s1:=zpw (d:=d) (r:=r) q1 l1
  simp only [bxC] at s1
  simp [gP,gt,gr,gg,e0,e1,e5,hlt,hinc,hi,i_46,C1,s1]
  obtain ⟨m2,hc2,R2,M2'⟩:=zkd (mk46 G_46 x.reach ((zae x.vars k').2) hxl.2) q1 (show d≤e+1 by omega) (M1.tight hd hT).up R1
  refine zgb _ _ rfl hc2 ?_
  have R2:RowI m2 d r (A ++ ((.sl ((zae x.vars k').1).length (encL ((zae x.vars k').1))) :: (.sl ((zae x.reach ((zae x.vars k').2)).1).length (encL ((zae x.reach ((zae x.vars k').2)).1))) :: (.sc (.int .i64 x.shared)) :: (.sc (.int .i64 x.many)) :: B)):=by rw [hP1,List.append_assoc] at R2;exact R2
  have M2:=M1.trans M2'
  have C2:=R2.1
  obtain ⟨P2,hP2⟩:∃ P:List D,P=A ++ [.sl ((zae x.vars k').1).length (encL ((zae x.vars k').1)),.sl ((zae x.reach ((zae x.vars k').2)).1).length (encL ((zae x.reach ((zae x.vars k').2)).1))]:=⟨_,rfl⟩
  have l2:P2.length=i * 4+2:=by rw [hP2,List.length_append,hA];simp
  have q2:A ++ ((.sl ((zae x.vars k').1).length (encL ((zae x.vars k').1))) :: (.sl ((zae x.reach ((zae x.vars k').2)).1).length (encL ((zae x.reach ((zae x.vars k').2)).1))) :: (.sc (.int .i64 x.shared)) :: (.sc (.int .i64 x.many)) :: B)=P2 ++ ((.sc (.int .i64 x.shared)) :: ((.sc (.int .i64 x.many)) :: B)):=by rw [hP2,List.append_assoc];rfl
  obtain ⟨w3,R3,M3'⟩:=zol (v':=.int .i64 ((zae x.reach ((zae x.vars k').2)).2)) q2 R2
  have q2':P2 ++ (.sc (.int .i64 ((zae x.reach ((zae x.vars k').2)).2)) :: ((.sc (.int .i64 x.many)) :: B))=A ++ ((.sl ((zae x.vars k').1).length (encL ((zae x.vars k').1))) :: (.sl ((zae x.reach ((zae x.vars k').2)).1).length (encL ((zae x.reach ((zae x.vars k').2)).1))) :: (.sc (.int .i64 ((zae x.reach ((zae x.vars k').2)).2))) :: (.sc (.int .i64 x.many)) :: B):=by rw [hP2,List.append_assoc];rfl
  rw [q2'] at w3 R3 M3'
  rw [l2] at w3
  have M3:=M2.trans M3'
  have h2:i * 4+2+1≤(bxL d r 0 (A ++ ((.sl ((zae x.vars k').1).length (encL ((zae x.vars k').1))) :: (.sl ((zae x.reach ((zae x.vars k').2)).1).length (encL ((zae x.reach ((zae x.vars k').2)).1))) :: (.sc (.int .i64 x.shared)) :: (.sc (.int .i64 x.many)) :: B))).length:=by rw [zdv,q2,List.length_append,List.length_cons,l2];omega
  obtain ⟨P3,hP3⟩:∃ P:List D,P=A ++ [.sl ((zae x.vars k').1).length (encL ((zae x.vars k').1)),.sl ((zae x.reach ((zae x.vars k').2)).1).length (encL ((zae x.reach ((zae x.vars k').2)).1)),.sc (.int .i64 ((zae x.reach ((zae x.vars k').2)).2))]:=⟨_,rfl⟩
  have l3:P3.length=i * 4+3:=by rw [hP3,List.length_append,hA];simp
  have q3:A ++ ((.sl ((zae x.vars k').1).length (encL ((zae x.vars k').1))) :: (.sl ((zae x.reach ((zae x.vars k').2)).1).length (encL ((zae x.reach ((zae x.vars k').2)).1))) :: (.sc (.int .i64 ((zae x.reach ((zae x.vars k').2)).2))) :: (.sc (.int .i64 x.many)) :: B)=P3 ++ ((.sc (.int .i64 x.many)) :: (B)):=by rw [hP3,List.append_assoc];rfl
  obtain ⟨w4,R4,M4'⟩:=zol (v':=.int .i64 (addI ((zae x.reach ((zae x.vars k').2)).2) 1)) q3 R3
  have q3':P3 ++ (.sc (.int .i64 (addI ((zae x.reach ((zae x.vars k').2)).2) 1)) :: (B))=A ++ ((.sl ((zae x.vars k').1).length (encL ((zae x.vars k').1))) :: (.sl ((zae x.reach ((zae x.vars k').2)).1).length (encL ((zae x.reach ((zae x.vars k').2)).1))) :: (.sc (.int .i64 ((zae x.reach ((zae x.vars k').2)).2))) :: (.sc (.int .i64 (addI ((zae x.reach ((zae x.vars k').2)).2) 1))) :: B):=by rw [hP3,List.append_assoc];rfl
  rw [q3'] at w4 R4 M4'
  rw [l3] at w4
  have M4:=M3.trans M4'
  have h3:i * 4+3+1≤(bxL d r 0 (A ++ ((.sl ((zae x.vars k').1).length (encL ((zae x.vars k').1))) :: (.sl ((zae x.reach ((zae x.vars k').2)).1).length (encL ((zae x.reach ((zae x.vars k').2)).1))) :: (.sc (.int .i64 ((zae x.reach ((zae x.vars k').2)).2))) :: (.sc (.int .i64 x.many)) :: B))).length:=by rw [zdv,q3,List.length_append,List.length_cons,l3];omega
  simp [gP,gt,gr,gg,e0,e1,e5,hlt,hinc,hi,i_46,C2,w3,h2,w4,h3]
  exact ⟨_,rfl,by simp [e0],by simp [zdx],by simp,R4,M4⟩
 ·intro z k' σ' e0 e1 e5
  have hlt:ltI (xs.length:Int) (xs.length:Int)=false:=by simp [ltI]
  simp [gP,gt,gr,gg,e0,e1,e5,hlt]
  exact ⟨_,rfl,by simp [e1],rfl⟩
 ·intro σ' e1 eR eM
  have hT2:memKill (fun k=>decide (e < k.1)) σ'.mem=σ'.mem:=eM.tight hd hT
  simp [gP,gt,gr,gg,e1,Goal,FnEndM,hT2]
  exact ⟨_,_,⟨rfl,rfl⟩,rfl,eM,eR⟩

abbrev G15 (g:Cfg):Prop:=Has Tryz.prog g 15 Tryz.f15 [] [(2,rowKp)] [] []
set_option maxHeartbeats 4000000 in
set_option maxRecDepth 100000 in
theorem mk15 {g:Cfg} (G:G15 g) (G_45:G45 g) (G_46:G46 g):MkOK g 15 false zan:=by
 have gP:=G.P;have gt:=G.tk;have gr:=G.ro;have gg:=G.gh
 have i_45:=G_45.no
 have i_46:=G_46.no
 refine zip fun xs k d e r mem hx hd hT hR=>?_
 have hl:xs.length≤9223372036854775806:=by have:=hx.1;omega
 refine zoc (Tryz.f15.body.getD .skip) [.tmp 4] G Tryz.func15 (by kernel_rfl) (by simp [Tryz.ntmps15]) rfl ?_
 simp [Tryz.f15,gP,gt,gr,gg]
 refine zlw zbn xs k d r mem (G.kp (2,rowKp) (by simp)) (by simp) (by simp) (by simp) hR (MemU.refl _ _ _) hl ?_ ?_ ?_
 ·intro i A B x k' σ' hx2 hi hi2 hA e0 e1 e5 R0 M0
  have hxl:=hx.2 x hx2
  have hlt:ltI (i:Int) (xs.length:Int)=true:=by simpa [ltI] using hi
  have hinc:addI (i:Int) 1=((i+1:Nat):Int):=zam (by omega) (by omega)
  have R0:RowI σ'.mem d r (A ++ ((.sl x.nodes.length (encL x.nodes)) :: (.sl x.next.length (encL x.next)) :: B)):=R0
  have C0:=R0.1
  obtain ⟨P0,hP0⟩:∃ P:List D,P=A ++ []:=⟨_,rfl⟩
  have l0:P0.length=i * 2:=by rw [hP0,List.length_append,hA];simp
  have q0:A ++ ((.sl x.nodes.length (encL x.nodes)) :: (.sl x.next.length (encL x.next)) :: B)=P0 ++ ((.sl x.nodes.length (encL x.nodes)) :: ((.sl x.next.length (encL x.next)) :: B)):=by rw [hP0,List.append_assoc];rfl
  have s0:=zpw (d:=d) (r:=r) q0 l0
  simp only [bxC] at s0
  simp [gP,gt,gr,gg,e0,e1,e5,hlt,hinc,hi,i_45,i_46,C0,s0]
  obtain ⟨m1,hc1,R1,M1'⟩:=zkd (mk45 G_45 G_46 x.nodes k' hxl.1) q0 (show d≤e+1 by omega) (M0.tight hd hT).up R0
  refine zgb _ _ rfl hc1 ?_
  have R1:RowI m1 d r (A ++ ((.sl ((zaj x.nodes k').1).length (encL ((zaj x.nodes k').1))) :: (.sl x.next.length (encL x.next)) :: B)):=by rw [hP0,List.append_assoc] at R1;exact R1
  have M1:=M0.trans M1'
  have C1:=R1.1
  obtain ⟨P1,hP1⟩:∃ P:List D,P=A ++ [.sl ((zaj x.nodes k').1).length (encL ((zaj x.nodes k').1))]:=⟨_,rfl⟩
  have l1:P1.length=i * 2+1:=by rw [hP1,List.length_append,hA];simp
  have q1:A ++ ((.sl ((zaj x.nodes k').1).length (encL ((zaj x.nodes k').1))) :: (.sl x.next.length (encL x.next)) :: B)=P1 ++ ((.sl x.next.length (encL x.next)) :: (B)):=by rw [hP1,List.append_assoc];rfl
  have s1:=zpw (d:=d) (r:=r) q1 l1
  simp only [bxC] at s1
  simp [gP,gt,gr,gg,e0,e1,e5,hlt,hinc,hi,i_45,i_46,C1,s1]
  obtain ⟨m2,hc2,R2,M2'⟩:=zkd (mk46 G_46 x.next ((zaj x.nodes k').2) hxl.2) q1 (show d≤e+1 by omega) (M1.tight hd hT).up R1
  refine zgb _ _ rfl hc2 ?_
  have R2:RowI m2 d r (A ++ ((.sl ((zaj x.nodes k').1).length (encL ((zaj x.nodes k').1))) :: (.sl ((zae x.next ((zaj x.nodes k').2)).1).length (encL ((zae x.next ((zaj x.nodes k').2)).1))) :: B)):=by rw [hP1,List.append_assoc] at R2;exact R2
  have M2:=M1.trans M2'
  have C2:=R2.1
  simp [gP,gt,gr,gg,e0,e1,e5,hlt,hinc,hi,i_45,i_46,C2]
  exact ⟨_,rfl,by simp [e0],by simp [zbn],by simp,R2,M2⟩
 ·intro z k' σ' e0 e1 e5
  have hlt:ltI (xs.length:Int) (xs.length:Int)=false:=by simp [ltI]
  simp [gP,gt,gr,gg,e0,e1,e5,hlt]
  exact ⟨_,rfl,by simp [e1],rfl⟩
 ·intro σ' e1 eR eM
  have hT2:memKill (fun k=>decide (e < k.1)) σ'.mem=σ'.mem:=eM.tight hd hT
  simp [gP,gt,gr,gg,e1,Goal,FnEndM,hT2]
  exact ⟨_,_,⟨rfl,rfl⟩,rfl,eM,eR⟩

abbrev G16 (g:Cfg):Prop:=Has Tryz.prog g 16 Tryz.f16 [] [] [] []
set_option maxHeartbeats 4000000 in
set_option maxRecDepth 100000 in
theorem mk16 {g:Cfg} (G:G16 g) (G_45:G45 g) (G_46:G46 g):MkOK g 16 true zfn:=by
 have gP:=G.P;have gt:=G.tk;have gr:=G.ro;have gg:=G.gh
 have i_45:=G_45.no
 have i_46:=G_46.no
 intro x k hx
 have h0:=mk45 G_45 G_46 x.nodes k hx.1
 have h1:=mk46 G_46 x.next ((zaj x.nodes k).2) hx.2
 have eX:enc x=[.sl x.nodes.length (encL x.nodes),.sl x.next.length (encL x.next)]:=rfl
 have eY:enc (zfn x k).1=[.sl ((zaj x.nodes k).1).length (encL ((zaj x.nodes k).1)),.sl ((zae x.next ((zaj x.nodes k).2)).1).length (encL ((zae x.next ((zaj x.nodes k).2)).1))]:=rfl
 refine ⟨fun d p i=>?_,fun d e p i mem hd hT hs=>?_⟩
 ·rw [eX,eY]
  simp only [bxL]
  have e0:=h0.1 d p (i)
  have e1:=h1.1 d p (i+1)
  simp only [ziu,bxL,List.cons.injEq,and_true,List.cons_append,List.nil_append] at e0 e1
  rw [e0,e1]
 ·have n0:mem (e+1,2)=none:=hT.none (by simp)
  rw [eX] at hs ⊢
  rw [eY]
  have ha:avC true (bxL d p i [.sl x.nodes.length (encL x.nodes),.sl x.next.length (encL x.next)])=.ag [.bs (d,pk (p ++ [i])) x.nodes.length (szD x.nodes.length (encL x.nodes)),.bs (d,pk (p ++ [i+1])) x.next.length (szD x.next.length (encL x.next))]:=rfl
  rw [ha]
  suffices hh:∃ R m,callo g e 16 [.ag [.bs (d,pk (p ++ [i])) x.nodes.length (szD x.nodes.length (encL x.nodes)),.bs (d,pk (p ++ [i+1])) x.next.length (szD x.next.length (encL x.next))],.one (.s (.int .i64 k))] mem=some (R,m)∧R=.one (.s (.int .i64 (zfn x k).2))∧MemR mem m d p i 2∧subL m d p i [.sl ((zaj x.nodes k).1).length (encL ((zaj x.nodes k).1)),.sl ((zae x.next ((zaj x.nodes k).2)).1).length (encL ((zae x.next ((zaj x.nodes k).2)).1))] by
   obtain ⟨R,m,hc,rfl,hr⟩:=hh
   exact ⟨m,hc,hr⟩
  refine zoc (Tryz.f16.body.getD .skip) [.tmp 4] G Tryz.func16 (by kernel_rfl) (by simp [Tryz.ntmps16]) rfl ?_
  simp [Tryz.f16,gP,gt,gr,gg,n0,i_45,i_46]
  have S0:subL (upd mem (e+1,2) (some [.bs (d,pk (p ++ [i])) x.nodes.length (szD x.nodes.length (encL x.nodes)),.bs (d,pk (p ++ [i+1])) x.next.length (szD x.next.length (encL x.next))])) d p i [.sl x.nodes.length (encL x.nodes),.sl x.next.length (encL x.next)]:=zjz (fun j q _=>by rw [zgk,if_neg (by intro hh;have:=(Prod.mk.inj hh).1;omega)]) hs
  have T0:Tight (e+1) (upd mem (e+1,2) (some [.bs (d,pk (p ++ [i])) x.nodes.length (szD x.nodes.length (encL x.nodes)),.bs (d,pk (p ++ [i+1])) x.next.length (szD x.next.length (encL x.next))])):=hT.up.upd (by simp) (by simp;omega)
  have M0:MemR (upd mem (e+1,2) (some [.bs (d,pk (p ++ [i])) x.nodes.length (szD x.nodes.length (encL x.nodes)),.bs (d,pk (p ++ [i+1])) x.next.length (szD x.next.length (encL x.next))])) (upd mem (e+1,2) (some [.bs (d,pk (p ++ [i])) x.nodes.length (szD x.nodes.length (encL x.nodes)),.bs (d,pk (p ++ [i+1])) x.next.length (szD x.next.length (encL x.next))])) d p i 2:=MemR.refl _ _ _ _ _
  obtain ⟨m1,hc1,S1,M1'⟩:=zoa (pre:=[]) h0 rfl (show d≤e+1 by omega) T0 S0
  refine zgb _ _ rfl hc1 ?_
  have M1:=M0.trans M1'
  have T1:Tight (e+1) m1:=M1.tight (show d≤e+1 by omega) T0
  have b1:m1 (e+1,2)=some [.bs (d,pk (p ++ [i])) x.nodes.length (szD x.nodes.length (encL x.nodes)),.bs (d,pk (p ++ [i+1])) x.next.length (szD x.next.length (encL x.next))]:=by rw [M1.far _ (fun j q _ _ hh=>by have:=(Prod.mk.inj hh).1;omega),zgk,if_pos rfl]
  simp [gP,gt,gr,gg,b1,i_45,i_46]
  obtain ⟨m2,hc2,S2,M2'⟩:=zoa (pre:=[.sl ((zaj x.nodes k).1).length (encL ((zaj x.nodes k).1))]) h1 rfl (show d≤e+1 by omega) T1 S1
  refine zgb _ _ rfl hc2 ?_
  have M2:=M1.trans M2'
  have T2:Tight (e+1) m2:=M2.tight (show d≤e+1 by omega) T0
  have b2:m2 (e+1,2)=some [.bs (d,pk (p ++ [i])) x.nodes.length (szD x.nodes.length (encL x.nodes)),.bs (d,pk (p ++ [i+1])) x.next.length (szD x.next.length (encL x.next))]:=by rw [M2.far _ (fun j q _ _ hh=>by have:=(Prod.mk.inj hh).1;omega),zgk,if_pos rfl]
  simp [gP,gt,gr,gg,b2,i_45,i_46,Goal,FnEndM]
  exact ⟨_,_,⟨rfl,rfl⟩,rfl,byval_end hd hT (cs:=[.sl x.nodes.length (encL x.nodes),.sl x.next.length (encL x.next)]) (i0:=i) M2 S2⟩

abbrev G27 (g:Cfg):Prop:=Has Tryz.prog g 27 Tryz.f27 [] [(2,rowKp)] [] []
set_option maxHeartbeats 4000000 in
set_option maxRecDepth 100000 in
theorem mk27 {g:Cfg} (G:G27 g) (G_46:G46 g):MkOK g 27 false zhd:=by
 have gP:=G.P;have gt:=G.tk;have gr:=G.ro;have gg:=G.gh
 have i_46:=G_46.no
 refine zip fun xs k d e r mem hx hd hT hR=>?_
 have hl:xs.length≤9223372036854775806:=by have:=hx.1;omega
 refine zoc (Tryz.f27.body.getD .skip) [.tmp 4] G Tryz.func27 (by kernel_rfl) (by simp [Tryz.ntmps27]) rfl ?_
 simp [Tryz.f27,gP,gt,gr,gg]
 refine zlw zgd xs k d r mem (G.kp (2,rowKp) (by simp)) (by simp) (by simp) (by simp) hR (MemU.refl _ _ _) hl ?_ ?_ ?_
 ·intro i A B x k' σ' hx2 hi hi2 hA e0 e1 e5 R0 M0
  have hxl:=hx.2 x hx2
  have hlt:ltI (i:Int) (xs.length:Int)=true:=by simpa [ltI] using hi
  have hinc:addI (i:Int) 1=((i+1:Nat):Int):=zam (by omega) (by omega)
  have R0:RowI σ'.mem d r (A ++ ((.sl x.vars.length (encL x.vars)) :: (.sl x.next.length (encL x.next)) :: B)):=R0
  have C0:=R0.1
  obtain ⟨P0,hP0⟩:∃ P:List D,P=A ++ []:=⟨_,rfl⟩
  have l0:P0.length=i * 2:=by rw [hP0,List.length_append,hA];simp
  have q0:A ++ ((.sl x.vars.length (encL x.vars)) :: (.sl x.next.length (encL x.next)) :: B)=P0 ++ ((.sl x.vars.length (encL x.vars)) :: ((.sl x.next.length (encL x.next)) :: B)):=by rw [hP0,List.append_assoc];rfl
  have s0:=zpw (d:=d) (r:=r) q0 l0
  simp only [bxC] at s0
  simp [gP,gt,gr,gg,e0,e1,e5,hlt,hinc,hi,i_46,C0,s0]
  obtain ⟨m1,hc1,R1,M1'⟩:=zkd (mk46 G_46 x.vars k' hxl.1) q0 (show d≤e+1 by omega) (M0.tight hd hT).up R0
  refine zgb _ _ rfl hc1 ?_
  have R1:RowI m1 d r (A ++ ((.sl ((zae x.vars k').1).length (encL ((zae x.vars k').1))) :: (.sl x.next.length (encL x.next)) :: B)):=by rw [hP0,List.append_assoc] at R1;exact R1
  have M1:=M0.trans M1'
  have C1:=R1.1
  obtain ⟨P1,hP1⟩:∃ P:List D,P=A ++ [.sl ((zae x.vars k').1).length (encL ((zae x.vars k').1))]:=⟨_,rfl⟩
  have l1:P1.length=i * 2+1:=by rw [hP1,List.length_append,hA];simp
  have q1:A ++ ((.sl ((zae x.vars k').1).length (encL ((zae x.vars k').1))) :: (.sl x.next.length (encL x.next)) :: B)=P1 ++ ((.sl x.next.length (encL x.next)) :: (B)):=by rw [hP1,List.append_assoc];rfl
  have s1:=zpw (d:=d) (r:=r) q1 l1
  simp only [bxC] at s1
  simp [gP,gt,gr,gg,e0,e1,e5,hlt,hinc,hi,i_46,C1,s1]
  obtain ⟨m2,hc2,R2,M2'⟩:=zkd (mk46 G_46 x.next ((zae x.vars k').2) hxl.2) q1 (show d≤e+1 by omega) (M1.tight hd hT).up R1
  refine zgb _ _ rfl hc2 ?_
  have R2:RowI m2 d r (A ++ ((.sl ((zae x.vars k').1).length (encL ((zae x.vars k').1))) :: (.sl ((zae x.next ((zae x.vars k').2)).1).length (encL ((zae x.next ((zae x.vars k').2)).1))) :: B)):=by rw [hP1,List.append_assoc] at R2;exact R2
  have M2:=M1.trans M2'
  have C2:=R2.1
  simp [gP,gt,gr,gg,e0,e1,e5,hlt,hinc,hi,i_46,C2]
  exact ⟨_,rfl,by simp [e0],by simp [zgd],by simp,R2,M2⟩
 ·intro z k' σ' e0 e1 e5
  have hlt:ltI (xs.length:Int) (xs.length:Int)=false:=by simp [ltI]
  simp [gP,gt,gr,gg,e0,e1,e5,hlt]
  exact ⟨_,rfl,by simp [e1],rfl⟩
 ·intro σ' e1 eR eM
  have hT2:memKill (fun k=>decide (e < k.1)) σ'.mem=σ'.mem:=eM.tight hd hT
  simp [gP,gt,gr,gg,e1,Goal,FnEndM,hT2]
  exact ⟨_,_,⟨rfl,rfl⟩,rfl,eM,eR⟩
end Go.Proofs

