import Derived.Test.YtfeogbfmndbcfaaEvA10
import Derived.Test.YtfeogbfmndbcfaaEvA11
import Derived.KernelRfl
set_option linter.unusedSimpArgs false
set_option linter.unusedVariables false
set_option linter.unnecessarySimpa false
noncomputable section
namespace Go.Proofs
open Go.Ev
open Enc (enc)
abbrev G44 (g:Cfg):Prop:=Has Try.prog g 44 Try.f44 [] [(2,rowKp)] [] []
set_option maxHeartbeats 4000000 in
set_option maxRecDepth 100000 in
theorem mk44 {g:Cfg} (G:G44 g):MkOK g 44 false zac:=by
 have gP:=G.P;have gt:=G.tk;have gr:=G.ro;have gg:=G.gh
 refine mark_row_ok fun xs k d e r mem hx hd hT hR=>?_
 have hl:xs.length≤9223372036854775806:=by have:=hx.1;omega
 refine start_m (Try.f44.body.getD .skip) [.tmp 4] G Try.func44 (by kernel_rfl) (by simp [Try.ntmps44]) rfl ?_
 simp [Try.f44,gP,gt,gr,gg]
 refine goal_rows mkE_markIntS xs k d r mem (G.kp (2,rowKp) (by simp)) (by simp) (by simp) (by simp) hR (MemU.refl _ _ _) hl ?_ ?_ ?_
 ·intro i A B x k' σ' hx2 hi hi2 hA e0 e1 e5 R0 M0
  have hxl:=hx.2 x hx2
  have hlt:ltI (i:Int) (xs.length:Int)=true:=by simpa [ltI] using hi
  have hinc:addI (i:Int) 1=((i+1:Nat):Int):=addI_eq (by omega) (by omega)
  have R0:RowI σ'.mem d r (A ++ ((.sc (.int .i64 x)) :: B)):=R0
  have C0:=R0.1
  obtain ⟨P0,hP0⟩:∃ P:List D,P=A ++ []:=⟨_,rfl⟩
  have l0:P0.length=i:=by rw [hP0,List.length_append,hA];simp
  have q0:A ++ ((.sc (.int .i64 x)) :: B)=P0 ++ ((.sc (.int .i64 x)) :: (B)):=by rw [hP0,List.append_assoc];rfl
  obtain ⟨w1,R1,M1'⟩:=row_store (v':=.int .i64 k') q0 R0
  have q0':P0 ++ (.sc (.int .i64 k') :: (B))=A ++ ((.sc (.int .i64 k')) :: B):=by rw [hP0,List.append_assoc];rfl
  rw [q0'] at w1 R1 M1'
  rw [l0] at w1
  have M1:=M0.trans M1'
  have h0:i+1≤(bxL d r 0 (A ++ ((.sc (.int .i64 x)) :: B))).length:=by rw [bxL_length,q0,List.length_append,List.length_cons,l0];omega
  simp [gP,gt,gr,gg,e0,e1,e5,hlt,hinc,hi,C0,w1,h0]
  exact ⟨_,rfl,by simp [e0],by simp [mkE_markIntS],by simp,R1,M1⟩
 ·intro z k' σ' e0 e1 e5
  have hlt:ltI (xs.length:Int) (xs.length:Int)=false:=by simp [ltI]
  simp [gP,gt,gr,gg,e0,e1,e5,hlt]
  exact ⟨_,rfl,by simp [e1],rfl⟩
 ·intro σ' e1 eR eM
  have hT2:memKill (fun k=>decide (e < k.1)) σ'.mem=σ'.mem:=eM.tight hd hT
  simp [gP,gt,gr,gg,e1,Goal,FnEndM,hT2]
  exact ⟨_,_,⟨rfl,rfl⟩,rfl,eM,eR⟩

abbrev G43 (g:Cfg):Prop:=Has Try.prog g 43 Try.f43 [] [(2,rowKp)] [] []
set_option maxHeartbeats 4000000 in
set_option maxRecDepth 100000 in
theorem mk43 {g:Cfg} (G:G43 g) (G_44:G44 g):MkOK g 43 false zai:=by
 have gP:=G.P;have gt:=G.tk;have gr:=G.ro;have gg:=G.gh
 have i_44:=G_44.no
 refine mark_row_ok fun xs k d e r mem hx hd hT hR=>?_
 have hl:xs.length≤9223372036854775806:=by have:=hx.1;omega
 refine start_m (Try.f43.body.getD .skip) [.tmp 4] G Try.func43 (by kernel_rfl) (by simp [Try.ntmps43]) rfl ?_
 simp [Try.f43,gP,gt,gr,gg]
 refine goal_rows mkE_markNodeS xs k d r mem (G.kp (2,rowKp) (by simp)) (by simp) (by simp) (by simp) hR (MemU.refl _ _ _) hl ?_ ?_ ?_
 ·intro i A B x k' σ' hx2 hi hi2 hA e0 e1 e5 R0 M0
  have hxl:=hx.2 x hx2
  have hlt:ltI (i:Int) (xs.length:Int)=true:=by simpa [ltI] using hi
  have hinc:addI (i:Int) 1=((i+1:Nat):Int):=addI_eq (by omega) (by omega)
  have R0:RowI σ'.mem d r (A ++ ((.sl x.vars.length (encL x.vars)) :: (.sl x.reach.length (encL x.reach)) :: (.sc (.int .i64 x.shared)) :: (.sc (.int .i64 x.many)) :: B)):=R0
  have C0:=R0.1
  obtain ⟨P0,hP0⟩:∃ P:List D,P=A ++ []:=⟨_,rfl⟩
  have l0:P0.length=i * 4:=by rw [hP0,List.length_append,hA];simp
  have q0:A ++ ((.sl x.vars.length (encL x.vars)) :: (.sl x.reach.length (encL x.reach)) :: (.sc (.int .i64 x.shared)) :: (.sc (.int .i64 x.many)) :: B)=P0 ++ ((.sl x.vars.length (encL x.vars)) :: ((.sl x.reach.length (encL x.reach)) :: (.sc (.int .i64 x.shared)) :: (.sc (.int .i64 x.many)) :: B)):=by rw [hP0,List.append_assoc];rfl
  have s0:=seg_bx (d:=d) (r:=r) q0 l0
  simp only [bxC] at s0
  simp [gP,gt,gr,gg,e0,e1,e5,hlt,hinc,hi,i_44,C0,s0]
  obtain ⟨m1,hc1,R1,M1'⟩:=row_mark (mk44 G_44 x.vars k' hxl.1) q0 (show d≤e+1 by omega) (M0.tight hd hT).up R0
  refine goal_callM _ _ rfl hc1 ?_
  have R1:RowI m1 d r (A ++ ((.sl ((zac x.vars k').1).length (encL ((zac x.vars k').1))) :: (.sl x.reach.length (encL x.reach)) :: (.sc (.int .i64 x.shared)) :: (.sc (.int .i64 x.many)) :: B)):=by rw [hP0,List.append_assoc] at R1;exact R1
  have M1:=M0.trans M1'
  have C1:=R1.1
  obtain ⟨P1,hP1⟩:∃ P:List D,P=A ++ [.sl ((zac x.vars k').1).length (encL ((zac x.vars k').1))]:=⟨_,rfl⟩
  have l1:P1.length=i * 4+1:=by rw [hP1,List.length_append,hA];simp
  have q1:A ++ ((.sl ((zac x.vars k').1).length (encL ((zac x.vars k').1))) :: (.sl x.reach.length (encL x.reach)) :: (.sc (.int .i64 x.shared)) :: (.sc (.int .i64 x.many)) :: B)=P1 ++ ((.sl x.reach.length (encL x.reach)) :: ((.sc (.int .i64 x.shared)) :: (.sc (.int .i64 x.many)) :: B)):=by rw [hP1,List.append_assoc];rfl
  have s1:=seg_bx (d:=d) (r:=r) q1 l1
  simp only [bxC] at s1
  simp [gP,gt,gr,gg,e0,e1,e5,hlt,hinc,hi,i_44,C1,s1]
  obtain ⟨m2,hc2,R2,M2'⟩:=row_mark (mk44 G_44 x.reach ((zac x.vars k').2) hxl.2) q1 (show d≤e+1 by omega) (M1.tight hd hT).up R1
  refine goal_callM _ _ rfl hc2 ?_
  have R2:RowI m2 d r (A ++ ((.sl ((zac x.vars k').1).length (encL ((zac x.vars k').1))) :: (.sl ((zac x.reach ((zac x.vars k').2)).1).length (encL ((zac x.reach ((zac x.vars k').2)).1))) :: (.sc (.int .i64 x.shared)) :: (.sc (.int .i64 x.many)) :: B)):=by rw [hP1,List.append_assoc] at R2;exact R2
  have M2:=M1.trans M2'
  have C2:=R2.1
  obtain ⟨P2,hP2⟩:∃ P:List D,P=A ++ [.sl ((zac x.vars k').1).length (encL ((zac x.vars k').1)),.sl ((zac x.reach ((zac x.vars k').2)).1).length (encL ((zac x.reach ((zac x.vars k').2)).1))]:=⟨_,rfl⟩
  have l2:P2.length=i * 4+2:=by rw [hP2,List.length_append,hA];simp
  have q2:A ++ ((.sl ((zac x.vars k').1).length (encL ((zac x.vars k').1))) :: (.sl ((zac x.reach ((zac x.vars k').2)).1).length (encL ((zac x.reach ((zac x.vars k').2)).1))) :: (.sc (.int .i64 x.shared)) :: (.sc (.int .i64 x.many)) :: B)=P2 ++ ((.sc (.int .i64 x.shared)) :: ((.sc (.int .i64 x.many)) :: B)):=by rw [hP2,List.append_assoc];rfl
  obtain ⟨w3,R3,M3'⟩:=row_store (v':=.int .i64 ((zac x.reach ((zac x.vars k').2)).2)) q2 R2
  have q2':P2 ++ (.sc (.int .i64 ((zac x.reach ((zac x.vars k').2)).2)) :: ((.sc (.int .i64 x.many)) :: B))=A ++ ((.sl ((zac x.vars k').1).length (encL ((zac x.vars k').1))) :: (.sl ((zac x.reach ((zac x.vars k').2)).1).length (encL ((zac x.reach ((zac x.vars k').2)).1))) :: (.sc (.int .i64 ((zac x.reach ((zac x.vars k').2)).2))) :: (.sc (.int .i64 x.many)) :: B):=by rw [hP2,List.append_assoc];rfl
  rw [q2'] at w3 R3 M3'
  rw [l2] at w3
  have M3:=M2.trans M3'
  have h2:i * 4+2+1≤(bxL d r 0 (A ++ ((.sl ((zac x.vars k').1).length (encL ((zac x.vars k').1))) :: (.sl ((zac x.reach ((zac x.vars k').2)).1).length (encL ((zac x.reach ((zac x.vars k').2)).1))) :: (.sc (.int .i64 x.shared)) :: (.sc (.int .i64 x.many)) :: B))).length:=by rw [bxL_length,q2,List.length_append,List.length_cons,l2];omega
  obtain ⟨P3,hP3⟩:∃ P:List D,P=A ++ [.sl ((zac x.vars k').1).length (encL ((zac x.vars k').1)),.sl ((zac x.reach ((zac x.vars k').2)).1).length (encL ((zac x.reach ((zac x.vars k').2)).1)),.sc (.int .i64 ((zac x.reach ((zac x.vars k').2)).2))]:=⟨_,rfl⟩
  have l3:P3.length=i * 4+3:=by rw [hP3,List.length_append,hA];simp
  have q3:A ++ ((.sl ((zac x.vars k').1).length (encL ((zac x.vars k').1))) :: (.sl ((zac x.reach ((zac x.vars k').2)).1).length (encL ((zac x.reach ((zac x.vars k').2)).1))) :: (.sc (.int .i64 ((zac x.reach ((zac x.vars k').2)).2))) :: (.sc (.int .i64 x.many)) :: B)=P3 ++ ((.sc (.int .i64 x.many)) :: (B)):=by rw [hP3,List.append_assoc];rfl
  obtain ⟨w4,R4,M4'⟩:=row_store (v':=.int .i64 (addI ((zac x.reach ((zac x.vars k').2)).2) 1)) q3 R3
  have q3':P3 ++ (.sc (.int .i64 (addI ((zac x.reach ((zac x.vars k').2)).2) 1)) :: (B))=A ++ ((.sl ((zac x.vars k').1).length (encL ((zac x.vars k').1))) :: (.sl ((zac x.reach ((zac x.vars k').2)).1).length (encL ((zac x.reach ((zac x.vars k').2)).1))) :: (.sc (.int .i64 ((zac x.reach ((zac x.vars k').2)).2))) :: (.sc (.int .i64 (addI ((zac x.reach ((zac x.vars k').2)).2) 1))) :: B):=by rw [hP3,List.append_assoc];rfl
  rw [q3'] at w4 R4 M4'
  rw [l3] at w4
  have M4:=M3.trans M4'
  have h3:i * 4+3+1≤(bxL d r 0 (A ++ ((.sl ((zac x.vars k').1).length (encL ((zac x.vars k').1))) :: (.sl ((zac x.reach ((zac x.vars k').2)).1).length (encL ((zac x.reach ((zac x.vars k').2)).1))) :: (.sc (.int .i64 ((zac x.reach ((zac x.vars k').2)).2))) :: (.sc (.int .i64 x.many)) :: B))).length:=by rw [bxL_length,q3,List.length_append,List.length_cons,l3];omega
  simp [gP,gt,gr,gg,e0,e1,e5,hlt,hinc,hi,i_44,C2,w3,h2,w4,h3]
  exact ⟨_,rfl,by simp [e0],by simp [mkE_markNodeS],by simp,R4,M4⟩
 ·intro z k' σ' e0 e1 e5
  have hlt:ltI (xs.length:Int) (xs.length:Int)=false:=by simp [ltI]
  simp [gP,gt,gr,gg,e0,e1,e5,hlt]
  exact ⟨_,rfl,by simp [e1],rfl⟩
 ·intro σ' e1 eR eM
  have hT2:memKill (fun k=>decide (e < k.1)) σ'.mem=σ'.mem:=eM.tight hd hT
  simp [gP,gt,gr,gg,e1,Goal,FnEndM,hT2]
  exact ⟨_,_,⟨rfl,rfl⟩,rfl,eM,eR⟩

abbrev G13 (g:Cfg):Prop:=Has Try.prog g 13 Try.f13 [] [] [] []
set_option maxHeartbeats 4000000 in
set_option maxRecDepth 100000 in
theorem mk13 {g:Cfg} (G:G13 g) (G_43:G43 g) (G_44:G44 g):MkOK g 13 true mkF_markStructure:=by
 have gP:=G.P;have gt:=G.tk;have gr:=G.ro;have gg:=G.gh
 have i_43:=G_43.no
 have i_44:=G_44.no
 intro x k hx
 have h0:=mk43 G_43 G_44 x.nodes k hx.1
 have h1:=mk44 G_44 x.next ((zai x.nodes k).2) hx.2
 have eX:enc x=[.sl x.nodes.length (encL x.nodes),.sl x.next.length (encL x.next)]:=rfl
 have eY:enc (mkF_markStructure x k).1=[.sl ((zai x.nodes k).1).length (encL ((zai x.nodes k).1)),.sl ((zac x.next ((zai x.nodes k).2)).1).length (encL ((zac x.next ((zai x.nodes k).2)).1))]:=rfl
 refine ⟨fun d p i=>?_,fun d e p i mem hd hT hs=>?_⟩
 ·rw [eX,eY]
  simp only [bxL]
  have e0:=h0.1 d p (i)
  have e1:=h1.1 d p (i+1)
  simp only [enc_list,bxL,List.cons.injEq,and_true,List.cons_append,List.nil_append] at e0 e1
  rw [e0,e1]
 ·have n0:mem (e+1,2)=none:=hT.none (by simp)
  rw [eX] at hs ⊢
  rw [eY]
  have ha:avC true (bxL d p i [.sl x.nodes.length (encL x.nodes),.sl x.next.length (encL x.next)])=.ag [.bs (d,pk (p ++ [i])) x.nodes.length (szD x.nodes.length (encL x.nodes)),.bs (d,pk (p ++ [i+1])) x.next.length (szD x.next.length (encL x.next))]:=rfl
  rw [ha]
  suffices hh:∃ R m,callo g e 13 [.ag [.bs (d,pk (p ++ [i])) x.nodes.length (szD x.nodes.length (encL x.nodes)),.bs (d,pk (p ++ [i+1])) x.next.length (szD x.next.length (encL x.next))],.one (.s (.int .i64 k))] mem=some (R,m)∧R=.one (.s (.int .i64 (mkF_markStructure x k).2))∧MemR mem m d p i 2∧subL m d p i [.sl ((zai x.nodes k).1).length (encL ((zai x.nodes k).1)),.sl ((zac x.next ((zai x.nodes k).2)).1).length (encL ((zac x.next ((zai x.nodes k).2)).1))] by
   obtain ⟨R,m,hc,rfl,hr⟩:=hh
   exact ⟨m,hc,hr⟩
  refine start_m (Try.f13.body.getD .skip) [.tmp 4] G Try.func13 (by kernel_rfl) (by simp [Try.ntmps13]) rfl ?_
  simp [Try.f13,gP,gt,gr,gg,n0,i_43,i_44]
  have S0:subL (upd mem (e+1,2) (some [.bs (d,pk (p ++ [i])) x.nodes.length (szD x.nodes.length (encL x.nodes)),.bs (d,pk (p ++ [i+1])) x.next.length (szD x.next.length (encL x.next))])) d p i [.sl x.nodes.length (encL x.nodes),.sl x.next.length (encL x.next)]:=subL_congr (fun j q _=>by rw [upd_get,if_neg (by intro hh;have:=(Prod.mk.inj hh).1;omega)]) hs
  have T0:Tight (e+1) (upd mem (e+1,2) (some [.bs (d,pk (p ++ [i])) x.nodes.length (szD x.nodes.length (encL x.nodes)),.bs (d,pk (p ++ [i+1])) x.next.length (szD x.next.length (encL x.next))])):=hT.up.upd (by simp) (by simp;omega)
  have M0:MemR (upd mem (e+1,2) (some [.bs (d,pk (p ++ [i])) x.nodes.length (szD x.nodes.length (encL x.nodes)),.bs (d,pk (p ++ [i+1])) x.next.length (szD x.next.length (encL x.next))])) (upd mem (e+1,2) (some [.bs (d,pk (p ++ [i])) x.nodes.length (szD x.nodes.length (encL x.nodes)),.bs (d,pk (p ++ [i+1])) x.next.length (szD x.next.length (encL x.next))])) d p i 2:=MemR.refl _ _ _ _ _
  obtain ⟨m1,hc1,S1,M1'⟩:=struct_mark (pre:=[]) h0 rfl (show d≤e+1 by omega) T0 S0
  refine goal_callM _ _ rfl hc1 ?_
  have M1:=M0.trans M1'
  have T1:Tight (e+1) m1:=M1.tight (show d≤e+1 by omega) T0
  have b1:m1 (e+1,2)=some [.bs (d,pk (p ++ [i])) x.nodes.length (szD x.nodes.length (encL x.nodes)),.bs (d,pk (p ++ [i+1])) x.next.length (szD x.next.length (encL x.next))]:=by rw [M1.far _ (fun j q _ _ hh=>by have:=(Prod.mk.inj hh).1;omega),upd_get,if_pos rfl]
  simp [gP,gt,gr,gg,b1,i_43,i_44]
  obtain ⟨m2,hc2,S2,M2'⟩:=struct_mark (pre:=[.sl ((zai x.nodes k).1).length (encL ((zai x.nodes k).1))]) h1 rfl (show d≤e+1 by omega) T1 S1
  refine goal_callM _ _ rfl hc2 ?_
  have M2:=M1.trans M2'
  have T2:Tight (e+1) m2:=M2.tight (show d≤e+1 by omega) T0
  have b2:m2 (e+1,2)=some [.bs (d,pk (p ++ [i])) x.nodes.length (szD x.nodes.length (encL x.nodes)),.bs (d,pk (p ++ [i+1])) x.next.length (szD x.next.length (encL x.next))]:=by rw [M2.far _ (fun j q _ _ hh=>by have:=(Prod.mk.inj hh).1;omega),upd_get,if_pos rfl]
  simp [gP,gt,gr,gg,b2,i_43,i_44,Goal,FnEndM]
  exact ⟨_,_,⟨rfl,rfl⟩,rfl,byval_end hd hT (cs:=[.sl x.nodes.length (encL x.nodes),.sl x.next.length (encL x.next)]) (i0:=i) M2 S2⟩

abbrev G20 (g:Cfg):Prop:=Has Try.prog g 20 Try.f20 [] [] [] []
set_option maxHeartbeats 4000000 in
set_option maxRecDepth 100000 in
theorem mk20 {g:Cfg} (G:G20 g) (G_44:G44 g):MkOK g 20 true mkF_markHeap:=by
 have gP:=G.P;have gt:=G.tk;have gr:=G.ro;have gg:=G.gh
 have i_44:=G_44.no
 intro x k hx
 have h0:=mk44 G_44 x.vars k hx.1
 have h1:=mk44 G_44 x.next ((zac x.vars k).2) hx.2
 have eX:enc x=[.sl x.vars.length (encL x.vars),.sl x.next.length (encL x.next)]:=rfl
 have eY:enc (mkF_markHeap x k).1=[.sl ((zac x.vars k).1).length (encL ((zac x.vars k).1)),.sl ((zac x.next ((zac x.vars k).2)).1).length (encL ((zac x.next ((zac x.vars k).2)).1))]:=rfl
 refine ⟨fun d p i=>?_,fun d e p i mem hd hT hs=>?_⟩
 ·rw [eX,eY]
  simp only [bxL]
  have e0:=h0.1 d p (i)
  have e1:=h1.1 d p (i+1)
  simp only [enc_list,bxL,List.cons.injEq,and_true,List.cons_append,List.nil_append] at e0 e1
  rw [e0,e1]
 ·have n0:mem (e+1,2)=none:=hT.none (by simp)
  rw [eX] at hs ⊢
  rw [eY]
  have ha:avC true (bxL d p i [.sl x.vars.length (encL x.vars),.sl x.next.length (encL x.next)])=.ag [.bs (d,pk (p ++ [i])) x.vars.length (szD x.vars.length (encL x.vars)),.bs (d,pk (p ++ [i+1])) x.next.length (szD x.next.length (encL x.next))]:=rfl
  rw [ha]
  suffices hh:∃ R m,callo g e 20 [.ag [.bs (d,pk (p ++ [i])) x.vars.length (szD x.vars.length (encL x.vars)),.bs (d,pk (p ++ [i+1])) x.next.length (szD x.next.length (encL x.next))],.one (.s (.int .i64 k))] mem=some (R,m)∧R=.one (.s (.int .i64 (mkF_markHeap x k).2))∧MemR mem m d p i 2∧subL m d p i [.sl ((zac x.vars k).1).length (encL ((zac x.vars k).1)),.sl ((zac x.next ((zac x.vars k).2)).1).length (encL ((zac x.next ((zac x.vars k).2)).1))] by
   obtain ⟨R,m,hc,rfl,hr⟩:=hh
   exact ⟨m,hc,hr⟩
  refine start_m (Try.f20.body.getD .skip) [.tmp 4] G Try.func20 (by kernel_rfl) (by simp [Try.ntmps20]) rfl ?_
  simp [Try.f20,gP,gt,gr,gg,n0,i_44]
  have S0:subL (upd mem (e+1,2) (some [.bs (d,pk (p ++ [i])) x.vars.length (szD x.vars.length (encL x.vars)),.bs (d,pk (p ++ [i+1])) x.next.length (szD x.next.length (encL x.next))])) d p i [.sl x.vars.length (encL x.vars),.sl x.next.length (encL x.next)]:=subL_congr (fun j q _=>by rw [upd_get,if_neg (by intro hh;have:=(Prod.mk.inj hh).1;omega)]) hs
  have T0:Tight (e+1) (upd mem (e+1,2) (some [.bs (d,pk (p ++ [i])) x.vars.length (szD x.vars.length (encL x.vars)),.bs (d,pk (p ++ [i+1])) x.next.length (szD x.next.length (encL x.next))])):=hT.up.upd (by simp) (by simp;omega)
  have M0:MemR (upd mem (e+1,2) (some [.bs (d,pk (p ++ [i])) x.vars.length (szD x.vars.length (encL x.vars)),.bs (d,pk (p ++ [i+1])) x.next.length (szD x.next.length (encL x.next))])) (upd mem (e+1,2) (some [.bs (d,pk (p ++ [i])) x.vars.length (szD x.vars.length (encL x.vars)),.bs (d,pk (p ++ [i+1])) x.next.length (szD x.next.length (encL x.next))])) d p i 2:=MemR.refl _ _ _ _ _
  obtain ⟨m1,hc1,S1,M1'⟩:=struct_mark (pre:=[]) h0 rfl (show d≤e+1 by omega) T0 S0
  refine goal_callM _ _ rfl hc1 ?_
  have M1:=M0.trans M1'
  have T1:Tight (e+1) m1:=M1.tight (show d≤e+1 by omega) T0
  have b1:m1 (e+1,2)=some [.bs (d,pk (p ++ [i])) x.vars.length (szD x.vars.length (encL x.vars)),.bs (d,pk (p ++ [i+1])) x.next.length (szD x.next.length (encL x.next))]:=by rw [M1.far _ (fun j q _ _ hh=>by have:=(Prod.mk.inj hh).1;omega),upd_get,if_pos rfl]
  simp [gP,gt,gr,gg,b1,i_44]
  obtain ⟨m2,hc2,S2,M2'⟩:=struct_mark (pre:=[.sl ((zac x.vars k).1).length (encL ((zac x.vars k).1))]) h1 rfl (show d≤e+1 by omega) T1 S1
  refine goal_callM _ _ rfl hc2 ?_
  have M2:=M1.trans M2'
  have T2:Tight (e+1) m2:=M2.tight (show d≤e+1 by omega) T0
  have b2:m2 (e+1,2)=some [.bs (d,pk (p ++ [i])) x.vars.length (szD x.vars.length (encL x.vars)),.bs (d,pk (p ++ [i+1])) x.next.length (szD x.next.length (encL x.next))]:=by rw [M2.far _ (fun j q _ _ hh=>by have:=(Prod.mk.inj hh).1;omega),upd_get,if_pos rfl]
  simp [gP,gt,gr,gg,b2,i_44,Goal,FnEndM]
  exact ⟨_,_,⟨rfl,rfl⟩,rfl,byval_end hd hT (cs:=[.sl x.vars.length (encL x.vars),.sl x.next.length (encL x.next)]) (i0:=i) M2 S2⟩
end Go.Proofs


set_option maxHeartbeats 4000000
set_option maxRecDepth 100000
namespace Go.Proofs
open Go.Ev
def C22:List AV→Option AV:=specP (X:=(List Int) × Int × Unit) fun x=>laws_szIntS x.1 x.2.1
theorem C22_eq {a_ left} {y} (h:laws_szIntS a_ left=some y):C22 [av .shr a_,av .shr left]=some (Res.res y):=zaf (x:=(a_,left,())) h
def g22:Cfg:={ P:=Try.prog,take:=[],keep:=[],gho:=[],ctx:=[] }
@[simp] theorem g22_s:type_of% (cfg_s (g:=g22) rfl):=cfg_s rfl
theorem w22 {a_ left} {y} (hp:laws_szIntS a_ left=some y):∃ m,callo g22 0 22 [av .shr a_,av .shr left] mem0=some (Res.res y,m):=by
 refine st0 [.tmp 4] Try.func22 ?_
 unfold laws_szIntS at hp
 simp [Try.f22]
 rcases zae hp with ⟨h_1,hp⟩|⟨h_1,hp⟩
 ·try simp at h_1
  cases hp
  simp [Goal,FnEnd,h_1]
 ·try simp at h_1
  cases hp
  simp [Goal,FnEnd,h_1]
theorem pc22:PC Try.prog 22 C22:=pc_of (g:=g22) (zag [] rfl trivial) (ent Try.func22) fun x y h=>w22 h

def C49:List AV→Option AV:=specP (X:=TNode × Int × Unit) fun x=>laws_szNode x.1 x.2.1
def g49:Cfg:={ P:=Try.prog,take:=[],keep:=[],gho:=[],ctx:=[(22,C22)] }
@[simp] theorem g49_s:type_of% (cfg_s (g:=g49) rfl):=cfg_s rfl
def C21:List AV→Option AV:=specP (X:=(List TNode) × Int × Unit) fun x=>laws_szNodeS x.1 x.2.1
theorem C21_eq {a_ left} {y} (h:laws_szNodeS a_ left=some y):C21 [av .shr a_,av .shr left]=some (Res.res y):=zaf (x:=(a_,left,())) h
def g21:Cfg:={ P:=Try.prog,take:=[],keep:=[((21,5),{ hd:=[0,1,5],bx:=[],ex:=[1],rt:=[4] })],gho:=[],ctx:=[(49,C49)] }
@[simp] theorem g21_s:type_of% (cfg_s (g:=g21) rfl):=cfg_s rfl
def C6:List AV→Option AV:=specP (X:=TStructure × Int × Unit) fun x=>laws_szStructure x.1 x.2.1
theorem C6_eq {a_ left} {y} (h:laws_szStructure a_ left=some y):C6 [av .shr a_,av .shr left]=some (Res.res y):=zaf (x:=(a_,left,())) h
def g6:Cfg:={ P:=Try.prog,take:=[],keep:=[],gho:=[],ctx:=[(21,C21),(22,C22)] }
@[simp] theorem g6_s:type_of% (cfg_s (g:=g6) rfl):=cfg_s rfl
theorem w6 {a_ left} {y} (hp:laws_szStructure a_ left=some y):∃ m,callo g6 0 6 [av .shr a_,av .shr left] mem0=some (Res.res y,m):=by
 refine st0 [.tmp 4] Try.func6 ?_
 unfold laws_szStructure at hp
 obtain ⟨y_1,h_2,hp⟩:=zaa hp
 have c_3:=C21_eq h_2
 simp at c_3
 simp [Try.f6,c_3]
 rcases zae hp with ⟨h_4,hp⟩|⟨h_4,hp⟩
 ·try simp at h_4
  cases hp
  simp [Goal,FnEnd,h_4]
 ·try simp at h_4
  obtain ⟨y_5,h_6,hp⟩:=zaa hp
  have c_7:=C22_eq h_6
  simp at c_7
  try simp [h_4,c_7]
  rcases zae hp with ⟨h_8,hp⟩|⟨h_8,hp⟩
  ·try simp at h_8
   cases hp
   simp [Goal,FnEnd,h_4,h_8]
  ·try simp at h_8
   cases hp
   simp [Goal,FnEnd,h_4,h_8]
def C25:List AV→Option AV:=specP (X:=(List Int) × Unit) fun x=>laws_toIntS x.1
theorem C25_eq {a_} {y} (h:laws_toIntS a_=some y):C25 [av .shr a_]=some (Res.res y):=zaf (x:=(a_,())) h
def g25:Cfg:={ P:=Try.prog,take:=[(25,7)],keep:=[((25,3),{ hd:=[0,3,4],bx:=[],ex:=[3],rt:=[2] })],gho:=[((25,atEnd),[.frz (.sl 2 0)])],ctx:=[] }
@[simp] theorem g25_s:type_of% (cfg_s (g:=g25) rfl):=cfg_s rfl
theorem w25 {a_} {y} (hp:laws_toIntS a_=some y):∃ m,callo g25 0 25 [av .shr a_] mem0=some (Res.res y,m):=by
 refine st0 [.tmp 2] Try.func25 ?_
 unfold laws_toIntS at hp
 obtain ⟨_,h_1,hp⟩:=zaa hp
 have b_2:=roomI_lo h_1
 have b_3:=roomI_ok h_1
 try simp at b_2 b_3
 have r_4:=row_replicate (a_.length:Int).toNat (0:Int) (by rfl)
 try simp at r_4
 simp [Try.f25,b_2,b_3,r_4]
 obtain ⟨r_24,h_25,hp⟩:=zaa hp
 obtain ⟨I_7,I_7_⟩:=exV fun (s_5:Int × (List Int)) (σ:St)=>(σ.env 0=uL .shr a_∧σ.env 3=.one (.bs (1,7) s_5.2.length 1)∧σ.env 4=uI s_5.1∧σ.mem (1,7)=some (rowC s_5.2))∧NoBox [(1,7)] σ.mem
 obtain ⟨X_8,X_8_⟩:=exV fun (r_24:(List Int)) (out:Out)=>∃ σ:St,out=.exit 0 σ∧(σ.env 3=.one (.bs (1,7) r_24.length 1)∧σ.mem (1,7)=some (rowC r_24))∧NoBox [(1,7)] σ.mem
 refine loopP ({ hd:=[0,3,4],bx:=[],ex:=[3],rt:=[2] }) I_7 X_8 h_25 (by exact rfl) ?_ ?_ ?_
 ·rw [I_7_]
  exact ⟨by simp [zad,zab],NoBox.restrict (by intro k hk hb;simp at hk hb;simp [hk,hb])⟩
 ·intro s_5 σ_9 a_6 hI hp
  rw [I_7_] at hI
  obtain ⟨q_11,hn_10⟩:=hI
  try simp [q_11]
  rcases zae hp with ⟨h_12,hp⟩|⟨h_12,hp⟩
  ·try simp at h_12
   obtain ⟨e_13,h_14,hp⟩:=zaa hp
   have b_15:=at_lo h_14
   have b_16:=at_hi h_14
   try simp at b_15 b_16
   have c_17:=seg_at' h_14 0 1 (by decide) (ds:=[.sc (.int .i64 e_13)]) rfl
   try simp at c_17
   obtain ⟨e_18,h_19,hp⟩:=zaa hp
   have b_20:=at_lo h_19
   have b_21:=at_hi h_19
   try simp at b_20 b_21
   have c_22:=splice_row h_19 0 e_13 [(cI e_13)] (by simp) rfl
   try simp at c_22
   have l_23:=row_room h_19 0 (m:=1) (by decide)
   try simp at l_23
   cases hp
   try simp [q_11,h_12,b_15,b_16,c_17,b_20,b_21,c_22,l_23]
   refine zaj ?_
   rw [I_7_]
   exact ⟨by simp [zad,zab,q_11,h_12,b_15,b_16,c_17,b_20,b_21,c_22,l_23],NoBox.restrict (by intro k hk hb;simp at hk hb;simp [hk,hb,q_11,h_12,b_15,b_16,c_17,b_20,b_21,c_22,l_23,hn_10 k (by simp [hk,hb])])⟩
  ·try simp at h_12
   cases hp
   try simp [q_11,h_12]
   refine goal_outX ?_
   rw [X_8_]
   exact ⟨_,rfl,by simp [zad,zab,q_11,h_12],NoBox.restrict (by intro k hk hb;simp at hk hb;simp [hk,hb,q_11,h_12,hn_10 k (by simp [hk,hb])])⟩
 ·intro out hX
  rw [X_8_] at hX
  obtain ⟨σ_26,rfl,q_28,hn_27⟩:=hX
  cases hp
  simp [Goal,FnEnd,q_28]
theorem pc25:PC Try.prog 25 C25:=pc_of (g:=g25) (zag [] rfl trivial) (ent Try.func25) fun x y h=>w25 h

def C52:List AV→Option AV:=specP (X:=TNode × Unit) fun x=>laws_toNode x.1
def g52:Cfg:={ P:=Try.prog,take:=[(52,18)],keep:=[],gho:=[],ctx:=[(25,C25)] }
@[simp] theorem g52_s:type_of% (cfg_s (g:=g52) rfl):=cfg_s rfl
def C24:List AV→Option AV:=specP (X:=(List TNode) × Unit) fun x=>laws_toNodeS x.1
def g24:Cfg:={ P:=Try.prog,take:=[(24,7)],keep:=[((24,3),{ hd:=[0,3,4],bx:=[],ex:=[3],rt:=[2] })],gho:=[((24,atEnd),[.frz (.sl 2 0)])],ctx:=[(52,C52)] }
@[simp] theorem g24_s:type_of% (cfg_s (g:=g24) rfl):=cfg_s rfl
def C8:List AV→Option AV:=specP (X:=TStructure × Unit) fun x=>laws_toStructure x.1
theorem C8_eq {a_} {y} (h:laws_toStructure a_=some y):C8 [av .shr a_]=some (Res.res y):=zaf (x:=(a_,())) h
def g8:Cfg:={ P:=Try.prog,take:=[(8,12)],keep:=[],gho:=[],ctx:=[(24,C24),(25,C25)] }
@[simp] theorem g8_s:type_of% (cfg_s (g:=g8) rfl):=cfg_s rfl
def C30:List AV→Option AV:=specP (X:=TStructure × Unit) fun x=>spec_l15Vars x.1
theorem C30_eq {s} {y} (h:spec_l15Vars s=some y):C30 [av .shr s]=some (Res.res y):=zaf (x:=(s,())) h
def g30:Cfg:={ P:=Try.prog,take:=[],keep:=[],gho:=[],ctx:=[] }
@[simp] theorem g30_s:type_of% (cfg_s (g:=g30) rfl):=cfg_s rfl
theorem w30 {s} {y} (hp:spec_l15Vars s=some y):∃ m,callo g30 0 30 [av .shr s] mem0=some (Res.res y,m):=by
 refine st0 [.tmp 2] Try.func30 ?_
 unfold spec_l15Vars at hp
 simp [Try.f30]
 rcases zae hp with ⟨h_1,hp⟩|⟨h_1,hp⟩
 ·try simp at h_1
  cases hp
  simp [Goal,FnEnd,h_1]
 ·try simp at h_1
  obtain ⟨e_2,h_3,hp⟩:=zaa hp
  have b_5:=at_hi h_3
  try simp at b_5
  have c_6:=seg_at' h_3 0 1 (by decide) (ds:=[.sl e_2.vars.length (encL e_2.vars)]) rfl
  try simp at c_6
  cases hp
  simp [Goal,FnEnd,h_1,b_5,c_6]
theorem pc30:PC Try.prog 30 C30:=pc_of (g:=g30) (zag [] rfl trivial) (ent Try.func30) fun x y h=>w30 h

def C59:List AV→Option AV:=specP (X:=Int × Int × Int × Unit) fun x=>spec_l1In x.1 x.2.1 x.2.2.1
theorem C59_eq {x_ lo hi} {y} (h:spec_l1In x_ lo hi=some y):C59 [av .shr x_,av .shr lo,av .shr hi]=some (Res.res y):=zaf (x:=(x_,lo,hi,())) h
def g59:Cfg:={ P:=Try.prog,take:=[],keep:=[],gho:=[],ctx:=[] }
@[simp] theorem g59_s:type_of% (cfg_s (g:=g59) rfl):=cfg_s rfl
theorem w59 {x_ lo hi} {y} (hp:spec_l1In x_ lo hi=some y):∃ m,callo g59 0 59 [av .shr x_,av .shr lo,av .shr hi] mem0=some (Res.res y,m):=by
 refine st0 [.tmp 6] Try.func59 ?_
 unfold spec_l1In at hp
 simp [Try.f59]
 rcases zae hp with ⟨h_1,hp⟩|⟨h_1,hp⟩
 ·try simp at h_1
  cases hp
  simp [Goal,FnEnd,h_1]
 ·try simp at h_1
  cases hp
  simp [Goal,FnEnd,h_1]
theorem pc59:PC Try.prog 59 C59:=pc_of (g:=g59) (zag [] rfl trivial) (ent Try.func59) fun x y h=>w59 h

def C58:List AV→Option AV:=specP (X:=Int × Unit) fun x=>spec_IsTruth x.1
theorem C58_eq {a_} {y} (h:spec_IsTruth a_=some y):C58 [av .shr a_]=some (Res.res y):=zaf (x:=(a_,())) h
def g58:Cfg:={ P:=Try.prog,take:=[],keep:=[],gho:=[],ctx:=[(59,C59)] }
@[simp] theorem g58_s:type_of% (cfg_s (g:=g58) rfl):=cfg_s rfl
theorem w58 {a_} {y} (hp:spec_IsTruth a_=some y):∃ m,callo g58 0 58 [av .shr a_] mem0=some (Res.res y,m):=by
 refine st0 [.tmp 2] Try.func58 ?_
 unfold spec_IsTruth at hp
 obtain ⟨y_1,h_2,hp⟩:=zaa hp
 have c_3:=C59_eq h_2
 simp at c_3
 cases hp
 simp [Try.f58,Goal,FnEnd,c_3]
theorem pc58:PC Try.prog 58 C58:=pc_of (g:=g58) (zag _ g58_s.2.1 ⟨pc59,trivial⟩) (ent Try.func58) fun x y h=>w58 h

def C57:List AV→Option AV:=specP (X:=(List Int) × Unit) fun x=>spec_l12Truths x.1
theorem C57_eq {list} {y} (h:spec_l12Truths list=some y):C57 [av .shr list]=some (Res.res y):=zaf (x:=(list,())) h
def g57:Cfg:={ P:=Try.prog,take:=[],keep:=[((57,2),{ hd:=[0,3],bx:=[],ex:=[],rt:=[2] })],gho:=[],ctx:=[(58,C58)] }
@[simp] theorem g57_s:type_of% (cfg_s (g:=g57) rfl):=cfg_s rfl
theorem w57 {list} {y} (hp:spec_l12Truths list=some y):∃ m,callo g57 0 57 [av .shr list] mem0=some (Res.res y,m):=by
 refine st0 [.tmp 2] Try.func57 ?_
 unfold spec_l12Truths at hp
 simp [Try.f57]
 obtain ⟨r_18,h_19,hp⟩:=zaa hp
 obtain ⟨I_3,I_3_⟩:=exV fun (s_1:Int) (σ:St)=>(σ.env 0=uL .shr list∧σ.env 3=uI s_1)∧σ.mem=mem0
 obtain ⟨X_4,X_4_⟩:=exV fun (r_18:(Unit) ⊕ (Unit)) (out:Out)=>Sum.elim (fun r_18=>∃ σ:St,out=.ret σ∧σ.env 2=uB false∧σ.mem=mem0) (fun r_18=>∃ σ:St,out=.exit 0 σ∧σ.mem=mem0) r_18
 refine loopP ({ hd:=[0,3],bx:=[],ex:=[],rt:=[2] }) I_3 X_4 h_19 (by exact rfl) ?_ ?_ ?_
 ·rw [I_3_]
  exact ⟨by simp [zad,zab],by simp [zab]⟩
 ·intro s_1 σ_5 a_2 hI hp
  rw [I_3_] at hI
  obtain ⟨q_7,q_6⟩:=hI
  try simp [q_7,q_6]
  rcases zae hp with ⟨h_8,hp⟩|⟨h_8,hp⟩
  ·try simp at h_8
   obtain ⟨e_9,h_10,hp⟩:=zaa hp
   have b_11:=at_lo h_10
   have b_12:=at_hi h_10
   try simp at b_11 b_12
   have c_13:=seg_at' h_10 0 1 (by decide) (ds:=[.sc (.int .i64 e_9)]) rfl
   try simp at c_13
   obtain ⟨y_14,h_15,hp⟩:=zaa hp
   have c_16:=C58_eq h_15
   simp at c_16
   try simp [q_7,q_6,h_8,b_11,b_12,c_13,c_16]
   rcases zae hp with ⟨h_17,hp⟩|⟨h_17,hp⟩
   ·try simp at h_17
    cases hp
    try simp [q_7,q_6,h_8,h_17]
    refine zaj ?_
    rw [I_3_]
    exact ⟨by simp [zad,zab,q_7,q_6,h_8,h_17],by simp [zab,q_7,q_6,h_8,h_17]⟩
   ·try simp at h_17
    cases hp
    try simp [q_7,q_6,h_8,h_17]
    refine goal_outR ?_
    rw [X_4_]
    exact ⟨_,rfl,by simp [zad,zab,q_7,q_6,h_8,h_17],by simp [zab,q_7,q_6,h_8,h_17]⟩
  ·try simp at h_8
   cases hp
   try simp [q_7,q_6,h_8]
   refine goal_outX ?_
   rw [X_4_]
   exact ⟨_,rfl,by simp [zab,q_7,q_6,h_8]⟩
 ·intro out hX
  rw [X_4_] at hX
  rcases r_18 with r_18 | r_18
  ·simp only [Sum.elim_inl,Sum.elim_inr] at hX hp
   obtain ⟨σ_20,rfl,q_22,q_21⟩:=hX
   cases hp
   simp [Goal,FnEnd,q_22,q_21]
  ·simp only [Sum.elim_inl,Sum.elim_inr] at hX hp
   obtain ⟨σ_23,rfl,q_24⟩:=hX
   cases hp
   simp [Goal,FnEnd,q_24]
theorem pc57:PC Try.prog 57 C57:=pc_of (g:=g57) (zag _ g57_s.2.1 ⟨pc58,trivial⟩) (ent Try.func57) fun x y h=>w57 h

def C29:List AV→Option AV:=specP (X:=Int × TStructure × Unit) fun x=>spec_IsStructure x.1 x.2.1
theorem C29_eq {vars s} {y} (h:spec_IsStructure vars s=some y):C29 [av .shr vars,av .shr s]=some (Res.res y):=zaf (x:=(vars,s,())) h
def g29:Cfg:={ P:=Try.prog,take:=[],keep:=[((29,3),{ hd:=[0,3,5,6],bx:=[7],ex:=[0,3,5],rt:=[4] })],gho:=[],ctx:=[(57,C57),(58,C58),(59,C59)] }
@[simp] theorem g29_s:type_of% (cfg_s (g:=g29) rfl):=cfg_s rfl
theorem w29 {vars s} {y} (hp:spec_IsStructure vars s=some y):∃ m,callo g29 0 29 [av .shr vars,av .shr s] mem0=some (Res.res y,m):=by
 refine st0 [.tmp 4] Try.func29 ?_
 unfold spec_IsStructure at hp
 simp [Try.f29]
 obtain ⟨r_33,h_34,hp⟩:=zaa hp
 obtain ⟨I_3,I_3_⟩:=exV fun (s_1:Int) (σ:St)=>(σ.env 0=uI vars∧σ.env 3=uP (1,3)∧σ.env 5=uI (s.nodes.length:Int)∧σ.env 6=uI s_1∧σ.mem (1,3)=some [cL .shr s.nodes,cL .shr s.next])∧NoBox [(1,3)] σ.mem
 obtain ⟨X_4,X_4_⟩:=exV fun (r_33:(Unit) ⊕ (Unit)) (out:Out)=>Sum.elim (fun r_33=>∃ σ:St,out=.ret σ∧(σ.env 4=uB false∧σ.mem (1,3)=some [cL .shr s.nodes,cL .shr s.next])∧NoBox [(1,3)] σ.mem) (fun r_33=>∃ σ:St,out=.exit 0 σ∧(σ.env 0=uI vars∧σ.env 3=uP (1,3)∧σ.env 5=uI (s.nodes.length:Int)∧σ.mem (1,3)=some [cL .shr s.nodes,cL .shr s.next])∧NoBox [(1,3)] σ.mem) r_33
 refine loopP ({ hd:=[0,3,5,6],bx:=[7],ex:=[0,3,5],rt:=[4] }) I_3 X_4 h_34 (by exact rfl) ?_ ?_ ?_
 ·rw [I_3_]
  exact ⟨by simp [zad,zab],NoBox.restrict (by intro k hk hb;simp at hk hb;simp [hk,hb])⟩
 ·intro s_1 σ_5 a_2 hI hp
  rw [I_3_] at hI
  obtain ⟨q_7,hn_6⟩:=hI
  try simp [q_7]
  rcases zae hp with ⟨h_8,hp⟩|⟨h_8,hp⟩
  ·try simp at h_8
   obtain ⟨e_9,h_10,hp⟩:=zaa hp
   have b_11:=at_lo h_10
   have b_12:=at_hi h_10
   try simp at b_11 b_12
   have c_13:=seg_at' h_10 0 4 (by decide) (ds:=[.sl e_9.vars.length (encL e_9.vars),.sl e_9.reach.length (encL e_9.reach),.sc (.int .i64 e_9.shared),.sc (.int .i64 e_9.many)]) rfl
   try simp at c_13
   have n_14:=hn_6 (1,7) (by simp)
   try simp [q_7,h_8,b_11,b_12,c_13,n_14]
   rcases zae hp with ⟨h_15,hp⟩|⟨h_15,hp⟩
   ·try simp at h_15
    cases hp
    try simp [q_7,h_8,h_15]
    refine goal_outR ?_
    rw [X_4_]
    exact ⟨_,rfl,by simp [zad,zab,q_7,h_8,h_15],NoBox.restrict (by intro k hk hb;simp at hk hb;simp [hk,hb,q_7,h_8,h_15,hn_6 k (by simp [hk,hb])])⟩
   ·try simp at h_15
    try simp [q_7,h_8,h_15]
    rcases zae hp with ⟨h_16,hp⟩|⟨h_16,hp⟩
    ·try simp at h_16
     cases hp
     try simp [q_7,h_8,h_15,h_16]
     refine goal_outR ?_
     rw [X_4_]
     exact ⟨_,rfl,by simp [zad,zab,q_7,h_8,h_15,h_16],NoBox.restrict (by intro k hk hb;simp at hk hb;simp [hk,hb,q_7,h_8,h_15,h_16,hn_6 k (by simp [hk,hb])])⟩
    ·try simp at h_16
     obtain ⟨y_17,h_18,hp⟩:=zaa hp
     have c_19:=C57_eq h_18
     simp at c_19
     try simp [q_7,h_8,h_15,h_16,c_19]
     rcases zae hp with ⟨h_20,hp⟩|⟨h_20,hp⟩
     ·try simp at h_20
      obtain ⟨y_21,h_22,hp⟩:=zaa hp
      have c_23:=C57_eq h_22
      simp at c_23
      try simp [q_7,h_8,h_15,h_16,h_20,c_23]
      rcases zae hp with ⟨h_24,hp⟩|⟨h_24,hp⟩
      ·try simp at h_24
       obtain ⟨y_25,h_26,hp⟩:=zaa hp
       have c_27:=C58_eq h_26
       simp at c_27
       try simp [q_7,h_8,h_15,h_16,h_20,h_24,c_27]
       rcases zae hp with ⟨h_28,hp⟩|⟨h_28,hp⟩
       ·try simp at h_28
        obtain ⟨y_29,h_30,hp⟩:=zaa hp
        have c_31:=C59_eq h_30
        simp at c_31
        try simp [q_7,h_8,h_15,h_16,h_20,h_24,h_28,c_31]
        rcases zae hp with ⟨h_32,hp⟩|⟨h_32,hp⟩
        ·try simp at h_32
         cases hp
         try simp [q_7,h_8,h_15,h_16,h_20,h_24,h_28,h_32]
         refine zaj ?_
         rw [I_3_]
         exact ⟨by simp [zad,zab,q_7,h_8,h_15,h_16,h_20,h_24,h_28,h_32],NoBox.restrict (by intro k hk hb;simp at hk hb;simp [hk,hb,q_7,h_8,h_15,h_16,h_20,h_24,h_28,h_32,hn_6 k (by simp [hk,hb])])⟩
        ·try simp at h_32
         cases hp
         try simp [q_7,h_8,h_15,h_16,h_20,h_24,h_28,h_32]
         refine goal_outR ?_
         rw [X_4_]
         exact ⟨_,rfl,by simp [zad,zab,q_7,h_8,h_15,h_16,h_20,h_24,h_28,h_32],NoBox.restrict (by intro k hk hb;simp at hk hb;simp [hk,hb,q_7,h_8,h_15,h_16,h_20,h_24,h_28,h_32,hn_6 k (by simp [hk,hb])])⟩
       ·try simp at h_28
        cases hp
        try simp [q_7,h_8,h_15,h_16,h_20,h_24,h_28]
        refine goal_outR ?_
        rw [X_4_]
        exact ⟨_,rfl,by simp [zad,zab,q_7,h_8,h_15,h_16,h_20,h_24,h_28],NoBox.restrict (by intro k hk hb;simp at hk hb;simp [hk,hb,q_7,h_8,h_15,h_16,h_20,h_24,h_28,hn_6 k (by simp [hk,hb])])⟩
      ·try simp at h_24
       cases hp
       try simp [q_7,h_8,h_15,h_16,h_20,h_24]
       refine goal_outR ?_
       rw [X_4_]
       exact ⟨_,rfl,by simp [zad,zab,q_7,h_8,h_15,h_16,h_20,h_24],NoBox.restrict (by intro k hk hb;simp at hk hb;simp [hk,hb,q_7,h_8,h_15,h_16,h_20,h_24,hn_6 k (by simp [hk,hb])])⟩
     ·try simp at h_20
      cases hp
      try simp [q_7,h_8,h_15,h_16,h_20]
      refine goal_outR ?_
      rw [X_4_]
      exact ⟨_,rfl,by simp [zad,zab,q_7,h_8,h_15,h_16,h_20],NoBox.restrict (by intro k hk hb;simp at hk hb;simp [hk,hb,q_7,h_8,h_15,h_16,h_20,hn_6 k (by simp [hk,hb])])⟩
  ·try simp at h_8
   cases hp
   try simp [q_7,h_8]
   refine goal_outX ?_
   rw [X_4_]
   exact ⟨_,rfl,by simp [zad,zab,q_7,h_8],NoBox.restrict (by intro k hk hb;simp at hk hb;simp [hk,hb,q_7,h_8,hn_6 k (by simp [hk,hb])])⟩
 ·intro out hX
  rw [X_4_] at hX
  rcases r_33 with r_33 | r_33
  ·simp only [Sum.elim_inl,Sum.elim_inr] at hX hp
   obtain ⟨σ_35,rfl,q_37,hn_36⟩:=hX
   cases hp
   simp [Goal,FnEnd,q_37]
  ·simp only [Sum.elim_inl,Sum.elim_inr] at hX hp
   obtain ⟨σ_38,rfl,q_40,hn_39⟩:=hX
   obtain ⟨y_41,h_42,hp⟩:=zaa hp
   have c_43:=C59_eq h_42
   simp at c_43
   try simp [q_40,c_43]
   rcases zae hp with ⟨h_44,hp⟩|⟨h_44,hp⟩
   ·try simp at h_44
    try simp [q_40,h_44]
    rcases zae hp with ⟨h_45,hp⟩|⟨h_45,hp⟩
    ·try simp at h_45
     try simp [q_40,h_44,h_45]
     rcases zae hp with ⟨h_46,hp⟩|⟨h_46,hp⟩
     ·try simp at h_46
      obtain ⟨y_47,h_48,hp⟩:=zaa hp
      have c_49:=C57_eq h_48
      simp at c_49
      cases hp
      simp [Goal,FnEnd,q_40,h_44,h_45,h_46,c_49]
     ·try simp at h_46
      cases hp
      simp [Goal,FnEnd,q_40,h_44,h_45,h_46]
    ·try simp at h_45
     cases hp
     simp [Goal,FnEnd,q_40,h_44,h_45]
   ·try simp at h_44
    cases hp
    simp [Goal,FnEnd,q_40,h_44]
theorem pc29:PC Try.prog 29 C29:=pc_of (g:=g29) (zag _ g29_s.2.1 ⟨pc57,pc58,pc59,trivial⟩) (ent Try.func29) fun x y h=>w29 h

def C60:List AV→Option AV:=specP (X:=TNode × Unit) fun x=>spec_l12CopyNode x.1
theorem C60_eq {x_} {y} (h:spec_l12CopyNode x_=some y):C60 [av .shr x_]=some (Res.res y):=zaf (x:=(x_,())) h
def g60:Cfg:={ P:=Try.prog,take:=[],keep:=[],gho:=[],ctx:=[] }
@[simp] theorem g60_s:type_of% (cfg_s (g:=g60) rfl):=cfg_s rfl
theorem w60 {x_} {y} (hp:spec_l12CopyNode x_=some y):∃ m,callo g60 0 60 [av .shr x_] mem0=some (Res.res y,m):=by
 refine st0 [.cell 2 56] Try.func60 ?_
 unfold spec_l12CopyNode at hp
 obtain ⟨_,h_1,hp⟩:=zaa hp
 have b_2:=room_ok h_1
 try simp at b_2
 obtain ⟨_,h_3,hp⟩:=zaa hp
 have b_4:=room_ok h_3
 try simp at b_4
 cases hp
 simp [Try.f60,Goal,FnEnd,retR,rsrc,RSrc.val,nodupR,nodup,tupPart,b_2,b_4]
theorem pc60:PC Try.prog 60 C60:=pc_of (g:=g60) (zag [] rfl trivial) (ent Try.func60) fun x y h=>w60 h

def C31:List AV→Option AV:=specP (X:=TStructure × Unit) fun x=>spec_l12Copy x.1
theorem C31_eq {s} {y} (h:spec_l12Copy s=some y):C31 [av .shr s]=some (Res.res y):=zaf (x:=(s,())) h
def g31:Cfg:={ P:=Try.prog,take:=[(31,18),(31,28)],keep:=[((31,3),{ hd:=[1,2,3,4],bx:=[],ex:=[2,3],rt:=[2] })],gho:=[],ctx:=[(60,C60)] }
@[simp] theorem g31_s:type_of% (cfg_s (g:=g31) rfl):=cfg_s rfl
theorem w31 {s} {y} (hp:spec_l12Copy s=some y):∃ m,callo g31 0 31 [av .shr s] mem0=some (Res.res y,m):=by
 refine st0 [.cell 2 30] Try.func31 ?_
 unfold spec_l12Copy at hp
 obtain ⟨_,h_1,hp⟩:=zaa hp
 have b_2:=room_ok h_1
 try simp at b_2
 simp [Try.f31,b_2]
 obtain ⟨r_21,h_22,hp⟩:=zaa hp
 obtain ⟨I_5,I_5_⟩:=exV fun (s_3:Int × (List TNode)) (σ:St)=>(σ.env 1=uP (1,1)∧σ.env 2=uP (1,2)∧σ.env 3=uP (1,3)∧σ.env 4=uI s_3.1∧σ.mem (1,1)=some [cL .shr s.nodes,cL .shr s.next]∧σ.mem (1,2)=some [.l .own 0 [],.l .own 0 []]∧σ.mem (1,3)=some [cL .own s_3.2,cL .own s.next])∧NoBox [(1,1),(1,2),(1,3)] σ.mem
 obtain ⟨X_6,X_6_⟩:=exV fun (r_21:(List TNode)) (out:Out)=>∃ σ:St,out=.exit 0 σ∧(σ.env 2=uP (1,2)∧σ.env 3=uP (1,3)∧σ.mem (1,1)=some [cL .shr s.nodes,cL .shr s.next]∧σ.mem (1,2)=some [.l .own 0 [],.l .own 0 []]∧σ.mem (1,3)=some [cL .own r_21,cL .own s.next])∧NoBox [(1,1),(1,2),(1,3)] σ.mem
 refine loopP ({ hd:=[1,2,3,4],bx:=[],ex:=[2,3],rt:=[2] }) I_5 X_6 h_22 (by exact rfl) ?_ ?_ ?_
 ·rw [I_5_]
  exact ⟨by simp [zad,zab],NoBox.restrict (by intro k hk hb;simp at hk hb;simp [hk,hb])⟩
 ·intro s_3 σ_7 a_4 hI hp
  rw [I_5_] at hI
  obtain ⟨q_9,hn_8⟩:=hI
  try simp [q_9]
  rcases zae hp with ⟨h_10,hp⟩|⟨h_10,hp⟩
  ·try simp at h_10
   obtain ⟨e_11,h_12,hp⟩:=zaa hp
   have b_13:=at_lo h_12
   have b_14:=at_hi h_12
   try simp at b_13 b_14
   have c_15:=seg_at' h_12 0 4 (by decide) (ds:=[.sl e_11.vars.length (encL e_11.vars),.sl e_11.reach.length (encL e_11.reach),.sc (.int .i64 e_11.shared),.sc (.int .i64 e_11.many)]) rfl
   try simp at c_15
   obtain ⟨y_16,h_17,hp⟩:=zaa hp
   have c_18:=C60_eq h_17
   simp at c_18
   obtain ⟨_,h_19,hp⟩:=zaa hp
   have b_20:=room_ok h_19
   try simp at b_20
   cases hp
   try simp [q_9,h_10,b_13,b_14,c_15,c_18,b_20]
   refine zaj ?_
   rw [I_5_]
   exact ⟨by simp [zad,zab,q_9,h_10,b_13,b_14,c_15,c_18,b_20],NoBox.restrict (by intro k hk hb;simp at hk hb;simp [hk,hb,q_9,h_10,b_13,b_14,c_15,c_18,b_20,hn_8 k (by simp [hk,hb])])⟩
  ·try simp at h_10
   cases hp
   try simp [q_9,h_10]
   refine goal_outX ?_
   rw [X_6_]
   exact ⟨_,rfl,by simp [zad,zab,q_9,h_10],NoBox.restrict (by intro k hk hb;simp at hk hb;simp [hk,hb,q_9,h_10,hn_8 k (by simp [hk,hb])])⟩
 ·intro out hX
  rw [X_6_] at hX
  obtain ⟨σ_23,rfl,q_25,hn_24⟩:=hX
  cases hp
  simp [Goal,FnEnd,retR,rsrc,RSrc.val,nodupR,nodup,tupPart,q_25]
theorem pc31:PC Try.prog 31 C31:=pc_of (g:=g31) (zag _ g31_s.2.1 ⟨pc60,trivial⟩) (ent Try.func31) fun x y h=>w31 h

def C89:List AV→Option AV:=specP (X:=TStructure × Unit) fun x=>spec_CountPredicates x.1
theorem C89_eq {s} {y} (h:spec_CountPredicates s=some y):C89 [av .shr s]=some (Res.res y):=zaf (x:=(s,())) h
def g89:Cfg:={ P:=Try.prog,take:=[],keep:=[],gho:=[],ctx:=[(30,C30)] }
@[simp] theorem g89_s:type_of% (cfg_s (g:=g89) rfl):=cfg_s rfl
theorem w89 {s} {y} (hp:spec_CountPredicates s=some y):∃ m,callo g89 0 89 [av .shr s] mem0=some (Res.res y,m):=by
 refine st0 [.tmp 2] Try.func89 ?_
 unfold spec_CountPredicates at hp
 simp [Try.f89]
 rcases zae hp with ⟨h_1,hp⟩|⟨h_1,hp⟩
 ·try simp at h_1
  cases hp
  simp [Goal,FnEnd,h_1]
 ·try simp at h_1
  obtain ⟨y_2,h_3,hp⟩:=zaa hp
  have c_4:=C30_eq h_3
  simp at c_4
  cases hp
  simp [Goal,FnEnd,h_1,c_4]
theorem pc89:PC Try.prog 89 C89:=pc_of (g:=g89) (zag _ g89_s.2.1 ⟨pc30,trivial⟩) (ent Try.func89) fun x y h=>w89 h

def C110:List AV→Option AV:=specP (X:=(List Int) × Int × Unit) fun x=>spec_l13At x.1 x.2.1
theorem C110_eq {list k_} {y} (h:spec_l13At list k_=some y):C110 [av .shr list,av .shr k_]=some (Res.res y):=zaf (x:=(list,k_,())) h
def g110:Cfg:={ P:=Try.prog,take:=[],keep:=[],gho:=[],ctx:=[(59,C59)] }
@[simp] theorem g110_s:type_of% (cfg_s (g:=g110) rfl):=cfg_s rfl
theorem w110 {list k_} {y} (hp:spec_l13At list k_=some y):∃ m,callo g110 0 110 [av .shr list,av .shr k_] mem0=some (Res.res y,m):=by
 refine st0 [.tmp 4] Try.func110 ?_
 unfold spec_l13At at hp
 obtain ⟨y_1,h_2,hp⟩:=zaa hp
 have c_3:=C59_eq h_2
 simp at c_3
 simp [Try.f110,c_3]
 rcases zae hp with ⟨h_4,hp⟩|⟨h_4,hp⟩
 ·try simp at h_4
  obtain ⟨e_5,h_6,hp⟩:=zaa hp
  have b_7:=at_lo h_6
  have b_8:=at_hi h_6
  try simp at b_7 b_8
  have c_9:=seg_at' h_6 0 1 (by decide) (ds:=[.sc (.int .i64 e_5)]) rfl
  try simp at c_9
  cases hp
  simp [Goal,FnEnd,h_4,b_7,b_8,c_9]
 ·try simp at h_4
  cases hp
  simp [Goal,FnEnd,h_4]
theorem pc110:PC Try.prog 110 C110:=pc_of (g:=g110) (zag _ g110_s.2.1 ⟨pc59,trivial⟩) (ent Try.func110) fun x y h=>w110 h

def C91:List AV→Option AV:=specP (X:=TStructure × Int × Int × Unit) fun x=>spec_PredicateAt x.1 x.2.1 x.2.2.1
theorem C91_eq {s k_ i} {y} (h:spec_PredicateAt s k_ i=some y):C91 [av .shr s,av .shr k_,av .shr i]=some (Res.res y):=zaf (x:=(s,k_,i,())) h
def g91:Cfg:={ P:=Try.prog,take:=[],keep:=[],gho:=[],ctx:=[(30,C30),(59,C59),(110,C110)] }
@[simp] theorem g91_s:type_of% (cfg_s (g:=g91) rfl):=cfg_s rfl
theorem w91 {s k_ i} {y} (hp:spec_PredicateAt s k_ i=some y):∃ m,callo g91 0 91 [av .shr s,av .shr k_,av .shr i] mem0=some (Res.res y,m):=by
 refine st0 [.tmp 6] Try.func91 ?_
 unfold spec_PredicateAt at hp
 obtain ⟨y_1,h_2,hp⟩:=zaa hp
 have c_3:=C30_eq h_2
 simp at c_3
 obtain ⟨y_4,h_5,hp⟩:=zaa hp
 have c_6:=C59_eq h_5
 simp at c_6
 simp [Try.f91,c_3,c_6]
 rcases zae hp with ⟨h_7,hp⟩|⟨h_7,hp⟩
 ·try simp at h_7
  obtain ⟨y_8,h_9,hp⟩:=zaa hp
  have c_10:=C59_eq h_9
  simp at c_10
  try simp [h_7,c_10]
  rcases zae hp with ⟨h_11,hp⟩|⟨h_11,hp⟩
  ·try simp at h_11
   obtain ⟨e_12,h_13,hp⟩:=zaa hp
   have b_14:=at_lo h_13
   have b_15:=at_hi h_13
   try simp at b_14 b_15
   have c_16:=seg_at' h_13 0 1 (by decide) (ds:=[.sl e_12.vars.length (encL e_12.vars)]) rfl
   try simp at c_16
   obtain ⟨y_17,h_18,hp⟩:=zaa hp
   have c_19:=C110_eq h_18
   simp at c_19
   cases hp
   simp [Goal,FnEnd,h_7,h_11,b_14,b_15,c_16,c_19]
  ·try simp at h_11
   obtain ⟨y_20,h_21,hp⟩:=zaa hp
   have c_22:=C59_eq h_21
   simp at c_22
   try simp [h_7,h_11,c_22]
   rcases zae hp with ⟨h_23,hp⟩|⟨h_23,hp⟩
   ·try simp at h_23
    obtain ⟨e_24,h_25,hp⟩:=zaa hp
    have b_26:=at_lo h_25
    have b_27:=at_hi h_25
    try simp at b_26 b_27
    have c_28:=seg_at' h_25 1 1 (by decide) (ds:=[.sl e_24.reach.length (encL e_24.reach)]) rfl
    try simp at c_28
    obtain ⟨y_29,h_30,hp⟩:=zaa hp
    have c_31:=C110_eq h_30
    simp at c_31
    cases hp
    simp [Goal,FnEnd,h_7,h_11,h_23,b_26,b_27,c_28,c_31]
   ·try simp at h_23
    try simp [h_7,h_11,h_23]
    rcases zae hp with ⟨h_32,hp⟩|⟨h_32,hp⟩
    ·try simp at h_32
     obtain ⟨e_33,h_34,hp⟩:=zaa hp
     have b_35:=at_lo h_34
     have b_36:=at_hi h_34
     try simp at b_35 b_36
     have c_37:=seg_at' h_34 2 1 (by decide) (ds:=[.sc (.int .i64 e_33.shared)]) rfl
     try simp at c_37
     cases hp
     simp [Goal,FnEnd,h_7,h_11,h_23,h_32,b_35,b_36,c_37]
    ·try simp at h_32
     cases hp
     simp [Goal,FnEnd,h_7,h_11,h_23,h_32]
 ·try simp at h_7
  cases hp
  simp [Goal,FnEnd,h_7]
theorem pc91:PC Try.prog 91 C91:=pc_of (g:=g91) (zag _ g91_s.2.1 ⟨pc30,pc59,pc110,trivial⟩) (ent Try.func91) fun x y h=>w91 h

def C90:List AV→Option AV:=specP (X:=Int × Unit) fun x=>spec_TruthText x.1
theorem C90_eq {a_} {y} (h:spec_TruthText a_=some y):C90 [av .shr a_]=some (Res.res y):=zaf (x:=(a_,())) h
def g90:Cfg:={ P:=Try.prog,take:=[],keep:=[],gho:=[],ctx:=[(58,C58)] }
@[simp] theorem g90_s:type_of% (cfg_s (g:=g90) rfl):=cfg_s rfl
theorem w90 {a_} {y} (hp:spec_TruthText a_=some y):∃ m,callo g90 0 90 [av .shr a_] mem0=some (Res.res y,m):=by
 refine st0 [.tmp 2] Try.func90 ?_
 unfold spec_TruthText at hp
 obtain ⟨y_1,h_2,hp⟩:=zaa hp
 have c_3:=C58_eq h_2
 simp at c_3
 simp [Try.f90,c_3]
 rcases zae hp with ⟨h_4,hp⟩|⟨h_4,hp⟩
 ·try simp at h_4
  obtain ⟨z_5,h_6,hp⟩:=zaa hp
  have c_7:=sl_str Try.underlying9 h_6
  cases hp
  simp [Goal,FnEnd,h_4,c_7]
 ·try simp at h_4
  cases hp
  simp [Goal,FnEnd,h_4]
theorem pc90:PC Try.prog 90 C90:=pc_of (g:=g90) (zag _ g90_s.2.1 ⟨pc58,trivial⟩) (ent Try.func90) fun x y h=>w90 h

def C61:List AV→Option AV:=specP (X:=TStructure × Int × Unit) fun x=>spec_NodeName x.1 x.2.1
theorem C61_eq {s i} {y} (h:spec_NodeName s i=some y):C61 [av .shr s,av .shr i]=some (Res.res y):=zaf (x:=(s,i,())) h
def g61:Cfg:={ P:=Try.prog,take:=[],keep:=[((61,6),{ hd:=[1,2,5,6,7],bx:=[],ex:=[5],rt:=[4] })],gho:=[],ctx:=[(59,C59),(89,C89),(90,C90),(91,C91)] }
@[simp] theorem g61_s:type_of% (cfg_s (g:=g61) rfl):=cfg_s rfl
theorem w61 {s i} {y} (hp:spec_NodeName s i=some y):∃ m,callo g61 0 61 [av .shr s,av .shr i] mem0=some (Res.res y,m):=by
 refine st0 [.tmp 4] Try.func61 ?_
 unfold spec_NodeName at hp
 obtain ⟨y_1,h_2,hp⟩:=zaa hp
 have c_3:=C59_eq h_2
 simp at c_3
 simp [Try.f61,c_3]
 rcases zae hp with ⟨h_4,hp⟩|⟨h_4,hp⟩
 ·try simp at h_4
  obtain ⟨y_5,h_6,hp⟩:=zaa hp
  have c_7:=C89_eq h_6
  simp at c_7
  try simp [h_4,c_7]
  obtain ⟨r_25,h_26,hp⟩:=zaa hp
  obtain ⟨I_10,I_10_⟩:=exV fun (s_8:ByteArray × Int) (σ:St)=>(σ.env 1=uI i∧σ.env 2=uP (1,2)∧σ.env 5=.one (.s (.string s_8.1))∧σ.env 6=uI y_5∧σ.env 7=uI s_8.2∧σ.mem (1,2)=some [cL .shr s.nodes,cL .shr s.next])∧NoBox [(1,2)] σ.mem
  obtain ⟨X_11,X_11_⟩:=exV fun (r_25:ByteArray) (out:Out)=>∃ σ:St,out=.exit 0 σ∧(σ.env 5=.one (.s (.string r_25))∧σ.mem (1,2)=some [cL .shr s.nodes,cL .shr s.next])∧NoBox [(1,2)] σ.mem
  refine loopP ({ hd:=[1,2,5,6,7],bx:=[],ex:=[5],rt:=[4] }) I_10 X_11 h_26 (by exact rfl) ?_ ?_ ?_
  ·rw [I_10_]
   exact ⟨by simp [zad,zab,h_4],NoBox.restrict (by intro k hk hb;simp at hk hb;simp [hk,hb,h_4])⟩
  ·intro s_8 σ_12 a_9 hI hp
   rw [I_10_] at hI
   obtain ⟨q_14,hn_13⟩:=hI
   try simp [h_4,q_14]
   rcases zae hp with ⟨h_15,hp⟩|⟨h_15,hp⟩
   ·try simp at h_15
    obtain ⟨y_16,h_17,hp⟩:=zaa hp
    have c_18:=C91_eq h_17
    simp at c_18
    obtain ⟨y_19,h_20,hp⟩:=zaa hp
    have c_21:=C90_eq h_20
    simp at c_21
    obtain ⟨z_22,h_23,hp⟩:=zaa hp
    have c_24:=cat_str (P:=Try.prog) (t:=9) h_23
    cases hp
    try simp [h_4,q_14,h_15,c_18,c_21,c_24]
    refine zaj ?_
    rw [I_10_]
    exact ⟨by simp [zad,zab,h_4,q_14,h_15,c_18,c_21,c_24],NoBox.restrict (by intro k hk hb;simp at hk hb;simp [hk,hb,h_4,q_14,h_15,c_18,c_21,c_24,hn_13 k (by simp [hk,hb])])⟩
   ·try simp at h_15
    cases hp
    try simp [h_4,q_14,h_15]
    refine goal_outX ?_
    rw [X_11_]
    exact ⟨_,rfl,by simp [zad,zab,h_4,q_14,h_15],NoBox.restrict (by intro k hk hb;simp at hk hb;simp [hk,hb,h_4,q_14,h_15,hn_13 k (by simp [hk,hb])])⟩
  ·intro out hX
   rw [X_11_] at hX
   obtain ⟨σ_27,rfl,q_29,hn_28⟩:=hX
   cases hp
   simp [Goal,FnEnd,h_4,q_29]
 ·try simp at h_4
  cases hp
  simp [Goal,FnEnd,h_4]
theorem pc61:PC Try.prog 61 C61:=pc_of (g:=g61) (zag _ g61_s.2.1 ⟨pc59,pc89,pc90,pc91,trivial⟩) (ent Try.func61) fun x y h=>w61 h

def C32:List AV→Option AV:=specS (X:=TStructure × Unit) fun x=>spec_l17Groups x.1
theorem C32_eq {s} {y} (h:spec_l17Groups s=some y):C32 [av .shr s]=some (av .shr y):=specS_eq (x:=(s,())) h
theorem pc32:PC Try.prog 32 C32:=pc_l17 pc61 fun s i x h=>C61_eq h

def C33:List AV→Option AV:=specP (X:=TStructure × (List Int) × Unit) fun x=>spec_l17Node x.1 x.2.1
theorem C33_eq {s group} {y} (h:spec_l17Node s group=some y):C33 [av .shr s,av .shr group]=some (Res.res y):=zaf (x:=(s,group,())) h
def g33:Cfg:={ P:=Try.prog,take:=[(33,37)],keep:=[((33,3),{ hd:=[1,2,4,5,6],bx:=[],ex:=[4,5],rt:=[4] })],gho:=[],ctx:=[(60,C60)] }
@[simp] theorem g33_s:type_of% (cfg_s (g:=g33) rfl):=cfg_s rfl
theorem w33 {s group} {y} (hp:spec_l17Node s group=some y):∃ m,callo g33 0 33 [av .shr s,av .shr group] mem0=some (Res.res y,m):=by
 refine st0 [.cell 4 56] Try.func33 ?_
 unfold spec_l17Node at hp
 obtain ⟨e_1,h_2,hp⟩:=zaa hp
 have b_4:=at_hi h_2
 try simp at b_4
 have c_5:=seg_at' h_2 0 1 (by decide) (ds:=[.sc (.int .i64 e_1)]) rfl
 try simp at c_5
 obtain ⟨e_6,h_7,hp⟩:=zaa hp
 have b_8:=at_lo h_7
 have b_9:=at_hi h_7
 try simp at b_8 b_9
 have c_10:=seg_at' h_7 0 4 (by decide) (ds:=[.sl e_6.vars.length (encL e_6.vars),.sl e_6.reach.length (encL e_6.reach),.sc (.int .i64 e_6.shared),.sc (.int .i64 e_6.many)]) rfl
 try simp at c_10
 obtain ⟨y_11,h_12,hp⟩:=zaa hp
 have c_13:=C60_eq h_12
 simp at c_13
 simp [Try.f33,b_4,c_5,b_8,b_9,c_10,c_13]
 obtain ⟨r_34,h_35,hp⟩:=zaa hp
 obtain ⟨I_16,I_16_⟩:=exV fun (s_14:Int × Int) (σ:St)=>(σ.env 1=uL .shr group∧σ.env 2=uP (1,2)∧σ.env 4=uP (1,4)∧σ.env 5=uP (1,5)∧σ.env 6=uI s_14.1∧σ.mem (1,2)=some [cL .shr s.nodes,cL .shr s.next]∧σ.mem (1,4)=some [.l .own 0 [],.l .own 0 [],cI 0,cI 0]∧σ.mem (1,5)=some [cL .own y_11.vars,cL .own y_11.reach,cI y_11.shared,cI s_14.2])∧NoBox [(1,2),(1,4),(1,5)] σ.mem
 obtain ⟨X_17,X_17_⟩:=exV fun (r_34:Int) (out:Out)=>∃ σ:St,out=.exit 0 σ∧(σ.env 4=uP (1,4)∧σ.env 5=uP (1,5)∧σ.mem (1,2)=some [cL .shr s.nodes,cL .shr s.next]∧σ.mem (1,4)=some [.l .own 0 [],.l .own 0 [],cI 0,cI 0]∧σ.mem (1,5)=some [cL .own y_11.vars,cL .own y_11.reach,cI y_11.shared,cI r_34])∧NoBox [(1,2),(1,4),(1,5)] σ.mem
 refine loopP ({ hd:=[1,2,4,5,6],bx:=[],ex:=[4,5],rt:=[4] }) I_16 X_17 h_35 (by exact rfl) ?_ ?_ ?_
 ·rw [I_16_]
  exact ⟨by simp [zad,zab],NoBox.restrict (by intro k hk hb;simp at hk hb;simp [hk,hb])⟩
 ·intro s_14 σ_18 a_15 hI hp
  rw [I_16_] at hI
  obtain ⟨q_20,hn_19⟩:=hI
  try simp [q_20]
  rcases zae hp with ⟨h_21,hp⟩|⟨h_21,hp⟩
  ·try simp at h_21
   try simp [q_20,h_21]
   rcases zae hp with ⟨h_22,hp⟩|⟨h_22,hp⟩
   ·try simp at h_22
    cases hp
    try simp [q_20,h_21,h_22]
    refine zaj ?_
    rw [I_16_]
    exact ⟨by simp [zad,zab,q_20,h_21,h_22],NoBox.restrict (by intro k hk hb;simp at hk hb;simp [hk,hb,q_20,h_21,h_22,hn_19 k (by simp [hk,hb])])⟩
   ·try simp at h_22
    obtain ⟨e_23,h_24,hp⟩:=zaa hp
    have b_25:=at_lo h_24
    have b_26:=at_hi h_24
    try simp at b_25 b_26
    have c_27:=seg_at' h_24 0 1 (by decide) (ds:=[.sc (.int .i64 e_23)]) rfl
    try simp at c_27
    obtain ⟨e_28,h_29,hp⟩:=zaa hp
    have b_30:=at_lo h_29
    have b_31:=at_hi h_29
    try simp at b_30 b_31
    have c_32:=seg_at' h_29 3 1 (by decide) (ds:=[.sc (.int .i64 e_28.many)]) rfl
    try simp at c_32
    try simp [q_20,h_21,h_22,b_25,b_26,c_27,b_30,b_31,c_32]
    rcases zae hp with ⟨h_33,hp⟩|⟨h_33,hp⟩
    ·try simp at h_33
     cases hp
     try simp [q_20,h_21,h_22,h_33]
     refine zaj ?_
     rw [I_16_]
     exact ⟨by simp [zad,zab,q_20,h_21,h_22,h_33],NoBox.restrict (by intro k hk hb;simp at hk hb;simp [hk,hb,q_20,h_21,h_22,h_33,hn_19 k (by simp [hk,hb])])⟩
    ·try simp at h_33
     cases hp
     try simp [q_20,h_21,h_22,h_33]
     refine zaj ?_
     rw [I_16_]
     exact ⟨by simp [zad,zab,q_20,h_21,h_22,h_33],NoBox.restrict (by intro k hk hb;simp at hk hb;simp [hk,hb,q_20,h_21,h_22,h_33,hn_19 k (by simp [hk,hb])])⟩
  ·try simp at h_21
   cases hp
   try simp [q_20,h_21]
   refine goal_outX ?_
   rw [X_17_]
   exact ⟨_,rfl,by simp [zad,zab,q_20,h_21],NoBox.restrict (by intro k hk hb;simp at hk hb;simp [hk,hb,q_20,h_21,hn_19 k (by simp [hk,hb])])⟩
 ·intro out hX
  rw [X_17_] at hX
  obtain ⟨σ_36,rfl,q_38,hn_37⟩:=hX
  cases hp
  simp [Goal,FnEnd,retR,rsrc,RSrc.val,nodupR,nodup,tupPart,q_38]
theorem pc33:PC Try.prog 33 C33:=pc_of (g:=g33) (zag _ g33_s.2.1 ⟨pc60,trivial⟩) (ent Try.func33) fun x y h=>w33 h

def C62:List AV→Option AV:=specP (X:=TStructure × Int × Int × Unit) fun x=>spec_NextOf x.1 x.2.1 x.2.2.1
theorem C62_eq {s i j} {y} (h:spec_NextOf s i j=some y):C62 [av .shr s,av .shr i,av .shr j]=some (Res.res y):=zaf (x:=(s,i,j,())) h
def g62:Cfg:={ P:=Try.prog,take:=[],keep:=[],gho:=[],ctx:=[(59,C59)] }
@[simp] theorem g62_s:type_of% (cfg_s (g:=g62) rfl):=cfg_s rfl
theorem w62 {s i j} {y} (hp:spec_NextOf s i j=some y):∃ m,callo g62 0 62 [av .shr s,av .shr i,av .shr j] mem0=some (Res.res y,m):=by
 refine st0 [.tmp 6] Try.func62 ?_
 unfold spec_NextOf at hp
 obtain ⟨y_1,h_2,hp⟩:=zaa hp
 have c_3:=C59_eq h_2
 simp at c_3
 simp [Try.f62,c_3]
 rcases zae hp with ⟨h_4,hp⟩|⟨h_4,hp⟩
 ·try simp at h_4
  obtain ⟨y_5,h_6,hp⟩:=zaa hp
  have c_7:=C59_eq h_6
  simp at c_7
  try simp [h_4,c_7]
  rcases zae hp with ⟨h_8,hp⟩|⟨h_8,hp⟩
  ·try simp at h_8
   try simp [h_4,h_8]
   rcases zae hp with ⟨h_9,hp⟩|⟨h_9,hp⟩
   ·try simp at h_9
    cases hp
    simp [Goal,FnEnd,h_4,h_8,h_9]
   ·try simp at h_9
    obtain ⟨e_10,h_11,hp⟩:=zaa hp
    have b_12:=at_lo h_11
    have b_13:=at_hi h_11
    try simp at b_12 b_13
    have c_14:=seg_at' h_11 0 1 (by decide) (ds:=[.sc (.int .i64 e_10)]) rfl
    try simp at c_14
    cases hp
    simp [Goal,FnEnd,h_4,h_8,h_9,b_12,b_13,c_14]
  ·try simp at h_8
   cases hp
   simp [Goal,FnEnd,h_4,h_8]
 ·try simp at h_4
  cases hp
  simp [Goal,FnEnd,h_4]
theorem pc62:PC Try.prog 62 C62:=pc_of (g:=g62) (zag _ g62_s.2.1 ⟨pc59,trivial⟩) (ent Try.func62) fun x y h=>w62 h

def C63:List AV→Option AV:=specP (X:=Int × Int × Unit) fun x=>spec_JoinOf x.1 x.2.1
theorem C63_eq {a_ b_} {y} (h:spec_JoinOf a_ b_=some y):C63 [av .shr a_,av .shr b_]=some (Res.res y):=zaf (x:=(a_,b_,())) h
def g63:Cfg:={ P:=Try.prog,take:=[],keep:=[],gho:=[],ctx:=[(58,C58)] }
@[simp] theorem g63_s:type_of% (cfg_s (g:=g63) rfl):=cfg_s rfl
theorem w63 {a_ b_} {y} (hp:spec_JoinOf a_ b_=some y):∃ m,callo g63 0 63 [av .shr a_,av .shr b_] mem0=some (Res.res y,m):=by
 refine st0 [.tmp 4] Try.func63 ?_
 unfold spec_JoinOf at hp
 simp [Try.f63]
 rcases zae hp with ⟨h_1,hp⟩|⟨h_1,hp⟩
 ·try simp at h_1
  cases hp
  simp [Goal,FnEnd,h_1]
 ·try simp at h_1
  obtain ⟨y_2,h_3,hp⟩:=zaa hp
  have c_4:=C58_eq h_3
  simp at c_4
  try simp [h_1,c_4]
  rcases zae hp with ⟨h_5,hp⟩|⟨h_5,hp⟩
  ·try simp at h_5
   cases hp
   simp [Goal,FnEnd,h_1,h_5]
  ·try simp at h_5
   cases hp
   simp [Goal,FnEnd,h_1,h_5]
theorem pc63:PC Try.prog 63 C63:=pc_of (g:=g63) (zag _ g63_s.2.1 ⟨pc58,trivial⟩) (ent Try.func63) fun x y h=>w63 h

def C34:List AV→Option AV:=specP (X:=TStructure × (List Int) × (List Int) × Unit) fun x=>spec_l17Next x.1 x.2.1 x.2.2.1
theorem C34_eq {s a_ b_} {y} (h:spec_l17Next s a_ b_=some y):C34 [av .shr s,av .shr a_,av .shr b_]=some (Res.res y):=zaf (x:=(s,a_,b_,())) h
def g34:Cfg:={ P:=Try.prog,take:=[],keep:=[((34,3),{ hd:=[1,2,3,7,8],bx:=[],ex:=[7],rt:=[6] }),((34,6),{ hd:=[1,2,3,7,8,9],bx:=[],ex:=[1,2,3,7,8],rt:=[6] })],gho:=[],ctx:=[(62,C62),(63,C63)] }
@[simp] theorem g34_s:type_of% (cfg_s (g:=g34) rfl):=cfg_s rfl
theorem w34 {s a_ b_} {y} (hp:spec_l17Next s a_ b_=some y):∃ m,callo g34 0 34 [av .shr s,av .shr a_,av .shr b_] mem0=some (Res.res y,m):=by
 refine st0 [.tmp 6] Try.func34 ?_
 unfold spec_l17Next at hp
 obtain ⟨e_1,h_2,hp⟩:=zaa hp
 have b_4:=at_hi h_2
 try simp at b_4
 have c_5:=seg_at' h_2 0 1 (by decide) (ds:=[.sc (.int .i64 e_1)]) rfl
 try simp at c_5
 obtain ⟨e_6,h_7,hp⟩:=zaa hp
 have b_9:=at_hi h_7
 try simp at b_9
 have c_10:=seg_at' h_7 0 1 (by decide) (ds:=[.sc (.int .i64 e_6)]) rfl
 try simp at c_10
 obtain ⟨y_11,h_12,hp⟩:=zaa hp
 have c_13:=C62_eq h_12
 simp at c_13
 simp [Try.f34,b_4,c_5,b_9,c_10,c_13]
 obtain ⟨r_51,h_52,hp⟩:=zaa hp
 obtain ⟨I_16,I_16_⟩:=exV fun (s_14:Int × Int) (σ:St)=>(σ.env 1=uL .shr a_∧σ.env 2=uL .shr b_∧σ.env 3=uP (1,3)∧σ.env 7=uI s_14.1∧σ.env 8=uI s_14.2∧σ.mem (1,3)=some [cL .shr s.nodes,cL .shr s.next])∧NoBox [(1,3)] σ.mem
 obtain ⟨X_17,X_17_⟩:=exV fun (r_51:Int) (out:Out)=>∃ σ:St,out=.exit 0 σ∧(σ.env 7=uI r_51∧σ.mem (1,3)=some [cL .shr s.nodes,cL .shr s.next])∧NoBox [(1,3)] σ.mem
 refine loopP ({ hd:=[1,2,3,7,8],bx:=[],ex:=[7],rt:=[6] }) I_16 X_17 h_52 (by exact rfl) ?_ ?_ ?_
 ·rw [I_16_]
  exact ⟨by simp [zad,zab],NoBox.restrict (by intro k hk hb;simp at hk hb;simp [hk,hb])⟩
 ·intro s_14 σ_18 a_15 hI hp
  rw [I_16_] at hI
  obtain ⟨q_20,hn_19⟩:=hI
  try simp [q_20]
  rcases zae hp with ⟨h_21,hp⟩|⟨h_21,hp⟩
  ·try simp at h_21
   try simp [q_20,h_21]
   obtain ⟨r_46,h_47,hp⟩:=zaa hp
   obtain ⟨I_24,I_24_⟩:=exV fun (s_22:Int × Int) (σ:St)=>(σ.env 1=uL .shr a_∧σ.env 2=uL .shr b_∧σ.env 3=uP (1,3)∧σ.env 7=uI s_22.1∧σ.env 8=uI s_14.2∧σ.env 9=uI s_22.2∧σ.mem (1,3)=some [cL .shr s.nodes,cL .shr s.next])∧NoBox [(1,3)] σ.mem
   obtain ⟨X_25,X_25_⟩:=exV fun (r_46:Int) (out:Out)=>∃ σ:St,out=.exit 2 σ∧(σ.env 1=uL .shr a_∧σ.env 2=uL .shr b_∧σ.env 3=uP (1,3)∧σ.env 7=uI r_46∧σ.env 8=uI s_14.2∧σ.mem (1,3)=some [cL .shr s.nodes,cL .shr s.next])∧NoBox [(1,3)] σ.mem
   refine loopP ({ hd:=[1,2,3,7,8,9],bx:=[],ex:=[1,2,3,7,8],rt:=[6] }) I_24 X_25 h_47 (by exact rfl) ?_ ?_ ?_
   ·rw [I_24_]
    exact ⟨by simp [zad,zab,q_20,h_21],NoBox.restrict (by intro k hk hb;simp at hk hb;simp [hk,hb,q_20,h_21,hn_19 k (by simp [hk,hb])])⟩
   ·intro s_22 σ_26 a_23 hI hp
    rw [I_24_] at hI
    obtain ⟨q_28,hn_27⟩:=hI
    try simp [h_21,q_28]
    rcases zae hp with ⟨h_29,hp⟩|⟨h_29,hp⟩
    ·try simp at h_29
     obtain ⟨e_30,h_31,hp⟩:=zaa hp
     have b_32:=at_lo h_31
     have b_33:=at_hi h_31
     try simp at b_32 b_33
     have c_34:=seg_at' h_31 0 1 (by decide) (ds:=[.sc (.int .i64 e_30)]) rfl
     try simp at c_34
     obtain ⟨e_35,h_36,hp⟩:=zaa hp
     have b_37:=at_lo h_36
     have b_38:=at_hi h_36
     try simp at b_37 b_38
     have c_39:=seg_at' h_36 0 1 (by decide) (ds:=[.sc (.int .i64 e_35)]) rfl
     try simp at c_39
     obtain ⟨y_40,h_41,hp⟩:=zaa hp
     have c_42:=C62_eq h_41
     simp at c_42
     obtain ⟨y_43,h_44,hp⟩:=zaa hp
     have c_45:=C63_eq h_44
     simp at c_45
     cases hp
     try simp [h_21,q_28,h_29,b_32,b_33,c_34,b_37,b_38,c_39,c_42,c_45]
     refine zaj ?_
     rw [I_24_]
     exact ⟨by simp [zad,zab,h_21,q_28,h_29,b_32,b_33,c_34,b_37,b_38,c_39,c_42,c_45],NoBox.restrict (by intro k hk hb;simp at hk hb;simp [hk,hb,h_21,q_28,h_29,b_32,b_33,c_34,b_37,b_38,c_39,c_42,c_45,hn_27 k (by simp [hk,hb])])⟩
    ·try simp at h_29
     cases hp
     try simp [h_21,q_28,h_29]
     refine goal_outX ?_
     rw [X_25_]
     exact ⟨_,rfl,by simp [zad,zab,h_21,q_28,h_29],NoBox.restrict (by intro k hk hb;simp at hk hb;simp [hk,hb,h_21,q_28,h_29,hn_27 k (by simp [hk,hb])])⟩
   ·intro out hX
    rw [X_25_] at hX
    obtain ⟨σ_48,rfl,q_50,hn_49⟩:=hX
    cases hp
    try simp [h_21,q_50]
    refine zaj ?_
    rw [I_16_]
    exact ⟨by simp [zad,zab,h_21,q_50],NoBox.restrict (by intro k hk hb;simp at hk hb;simp [hk,hb,h_21,q_50,hn_49 k (by simp [hk,hb])])⟩
  ·try simp at h_21
   cases hp
   try simp [q_20,h_21]
   refine goal_outX ?_
   rw [X_17_]
   exact ⟨_,rfl,by simp [zad,zab,q_20,h_21],NoBox.restrict (by intro k hk hb;simp at hk hb;simp [hk,hb,q_20,h_21,hn_19 k (by simp [hk,hb])])⟩
 ·intro out hX
  rw [X_17_] at hX
  obtain ⟨σ_53,rfl,q_55,hn_54⟩:=hX
  cases hp
  simp [Goal,FnEnd,q_55]
theorem pc34:PC Try.prog 34 C34:=pc_of (g:=g34) (zag _ g34_s.2.1 ⟨pc62,pc63,trivial⟩) (ent Try.func34) fun x y h=>w34 h

def C11:List AV→Option AV:=specP (X:=TStructure × Unit) fun x=>spec_Blur x.1
theorem C11_eq {s} {y} (h:spec_Blur s=some y):C11 [av .shr s]=some (Res.res y):=zaf (x:=(s,())) h
def g11:Cfg:={ P:=Try.prog,take:=[(11,29),(11,46),(11,60)],keep:=[((11,8),{ hd:=[1,2,3,4,5],bx:=[],ex:=[2,4],rt:=[2] }),((11,12),{ hd:=[1,2,3,4,5,6],bx:=[],ex:=[1,2,3,4,5],rt:=[2] })],gho:=[],ctx:=[(29,C29),(30,C30),(31,C31),(32,C32),(33,C33),(34,C34)] }
@[simp] theorem g11_s:type_of% (cfg_s (g:=g11) rfl):=cfg_s rfl
theorem w11 {s} {y} (hp:spec_Blur s=some y):∃ m,callo g11 0 11 [av .shr s] mem0=some (Res.res y,m):=by
 refine st0 [.cell 2 30] Try.func11 ?_
 unfold spec_Blur at hp
 simp [Try.f11]
 rcases zae hp with ⟨h_1,hp⟩|⟨h_1,hp⟩
 ·try simp at h_1
  cases hp
  simp [Goal,FnEnd,retR,rsrc,RSrc.val,nodupR,nodup,tupPart,h_1]
 ·try simp at h_1
  obtain ⟨y_2,h_3,hp⟩:=zaa hp
  have c_4:=C30_eq h_3
  simp at c_4
  obtain ⟨y_5,h_6,hp⟩:=zaa hp
  have c_7:=C29_eq h_6
  simp at c_7
  try simp [h_1,c_4,c_7]
  rcases zae hp with ⟨h_8,hp⟩|⟨h_8,hp⟩
  ·try simp at h_8
   obtain ⟨y_9,h_10,hp⟩:=zaa hp
   have c_11:=C32_eq h_10
   simp at c_11
   try simp [h_1,h_8,c_11]
   obtain ⟨r_58,h_59,hp⟩:=zaa hp
   obtain ⟨I_14,I_14_⟩:=exV fun (s_12:Int × (List TNode) × (List Int)) (σ:St)=>(σ.env 1=uP (1,1)∧σ.env 2=uP (1,2)∧σ.env 3=uL .shr y_9∧σ.env 4=uP (1,4)∧σ.env 5=uI s_12.1∧σ.mem (1,1)=some [cL .shr s.nodes,cL .shr s.next]∧σ.mem (1,2)=some [.l .own 0 [],.l .own 0 []]∧σ.mem (1,4)=some [cL .own s_12.2.1,cL .own s_12.2.2])∧NoBox [(1,1),(1,2),(1,4)] σ.mem
   obtain ⟨X_15,X_15_⟩:=exV fun (r_58:(List TNode) × (List Int)) (out:Out)=>∃ σ:St,out=.exit 0 σ∧(σ.env 2=uP (1,2)∧σ.env 4=uP (1,4)∧σ.mem (1,1)=some [cL .shr s.nodes,cL .shr s.next]∧σ.mem (1,2)=some [.l .own 0 [],.l .own 0 []]∧σ.mem (1,4)=some [cL .own r_58.1,cL .own r_58.2])∧NoBox [(1,1),(1,2),(1,4)] σ.mem
   refine loopP ({ hd:=[1,2,3,4,5],bx:=[],ex:=[2,4],rt:=[2] }) I_14 X_15 h_59 (by exact rfl) ?_ ?_ ?_
   ·rw [I_14_]
    exact ⟨by simp [zad,zab,h_1,h_8],NoBox.restrict (by intro k hk hb;simp at hk hb;simp [hk,hb,h_1,h_8])⟩
   ·intro s_12 σ_16 a_13 hI hp
    rw [I_14_] at hI
    obtain ⟨q_18,hn_17⟩:=hI
    try simp [h_1,h_8,q_18]
    rcases zae hp with ⟨h_19,hp⟩|⟨h_19,hp⟩
    ·try simp at h_19
     obtain ⟨e_20,h_21,hp⟩:=zaa hp
     have b_22:=at_lo h_21
     have b_23:=at_hi h_21
     try simp at b_22 b_23
     have c_24:=seg_at' h_21 0 1 (by decide) (ds:=[.sl e_20.length (encL e_20)]) rfl
     try simp at c_24
     obtain ⟨y_25,h_26,hp⟩:=zaa hp
     have c_27:=C33_eq h_26
     simp at c_27
     obtain ⟨_,h_28,hp⟩:=zaa hp
     have b_29:=room_ok h_28
     try simp at b_29
     try simp [h_1,h_8,q_18,h_19,b_22,b_23,c_24,c_27,b_29]
     obtain ⟨r_53,h_54,hp⟩:=zaa hp
     obtain ⟨I_32,I_32_⟩:=exV fun (s_30:Int × (List Int)) (σ:St)=>(σ.env 1=uP (1,1)∧σ.env 2=uP (1,2)∧σ.env 3=uL .shr y_9∧σ.env 4=uP (1,4)∧σ.env 5=uI s_12.1∧σ.env 6=uI s_30.1∧σ.mem (1,1)=some [cL .shr s.nodes,cL .shr s.next]∧σ.mem (1,2)=some [.l .own 0 [],.l .own 0 []]∧σ.mem (1,4)=some [cL .own (s_12.2.1 ++ [y_25]),cL .own s_30.2])∧NoBox [(1,1),(1,2),(1,4)] σ.mem
     obtain ⟨X_33,X_33_⟩:=exV fun (r_53:(List Int)) (out:Out)=>∃ σ:St,out=.exit 2 σ∧(σ.env 1=uP (1,1)∧σ.env 2=uP (1,2)∧σ.env 3=uL .shr y_9∧σ.env 4=uP (1,4)∧σ.env 5=uI s_12.1∧σ.mem (1,1)=some [cL .shr s.nodes,cL .shr s.next]∧σ.mem (1,2)=some [.l .own 0 [],.l .own 0 []]∧σ.mem (1,4)=some [cL .own (s_12.2.1 ++ [y_25]),cL .own r_53])∧NoBox [(1,1),(1,2),(1,4)] σ.mem
     refine loopP ({ hd:=[1,2,3,4,5,6],bx:=[],ex:=[1,2,3,4,5],rt:=[2] }) I_32 X_33 h_54 (by exact rfl) ?_ ?_ ?_
     ·rw [I_32_]
      exact ⟨by simp [zad,zab,h_1,h_8,q_18,h_19],NoBox.restrict (by intro k hk hb;simp at hk hb;simp [hk,hb,h_1,h_8,q_18,h_19,hn_17 k (by simp [hk,hb])])⟩
     ·intro s_30 σ_34 a_31 hI hp
      rw [I_32_] at hI
      obtain ⟨q_36,hn_35⟩:=hI
      try simp [h_1,h_8,h_19,q_36]
      rcases zae hp with ⟨h_37,hp⟩|⟨h_37,hp⟩
      ·try simp at h_37
       obtain ⟨e_38,h_39,hp⟩:=zaa hp
       cases Option.some.inj (h_21.symm.trans h_39)
       have b_40:=at_lo h_21
       have b_41:=at_hi h_21
       try simp at b_40 b_41
       have c_42:=seg_at' h_21 0 1 (by decide) (ds:=[.sl e_20.length (encL e_20)]) rfl
       try simp at c_42
       obtain ⟨e_43,h_44,hp⟩:=zaa hp
       have b_45:=at_lo h_44
       have b_46:=at_hi h_44
       try simp at b_45 b_46
       have c_47:=seg_at' h_44 0 1 (by decide) (ds:=[.sl e_43.length (encL e_43)]) rfl
       try simp at c_47
       obtain ⟨y_48,h_49,hp⟩:=zaa hp
       have c_50:=C34_eq h_49
       simp at c_50
       obtain ⟨_,h_51,hp⟩:=zaa hp
       have b_52:=room_ok h_51
       try simp at b_52
       cases hp
       try simp [h_1,h_8,h_19,q_36,h_37,b_40,b_41,c_42,b_45,b_46,c_47,c_50,b_52]
       refine zaj ?_
       rw [I_32_]
       exact ⟨by simp [zad,zab,h_1,h_8,h_19,q_36,h_37,b_40,b_41,c_42,b_45,b_46,c_47,c_50,b_52],NoBox.restrict (by intro k hk hb;simp at hk hb;simp [hk,hb,h_1,h_8,h_19,q_36,h_37,b_40,b_41,c_42,b_45,b_46,c_47,c_50,b_52,hn_35 k (by simp [hk,hb])])⟩
      ·try simp at h_37
       cases hp
       try simp [h_1,h_8,h_19,q_36,h_37]
       refine goal_outX ?_
       rw [X_33_]
       exact ⟨_,rfl,by simp [zad,zab,h_1,h_8,h_19,q_36,h_37],NoBox.restrict (by intro k hk hb;simp at hk hb;simp [hk,hb,h_1,h_8,h_19,q_36,h_37,hn_35 k (by simp [hk,hb])])⟩
     ·intro out hX
      rw [X_33_] at hX
      obtain ⟨σ_55,rfl,q_57,hn_56⟩:=hX
      cases hp
      try simp [h_1,h_8,h_19,q_57]
      refine zaj ?_
      rw [I_14_]
      exact ⟨by simp [zad,zab,h_1,h_8,h_19,q_57],NoBox.restrict (by intro k hk hb;simp at hk hb;simp [hk,hb,h_1,h_8,h_19,q_57,hn_56 k (by simp [hk,hb])])⟩
    ·try simp at h_19
     cases hp
     try simp [h_1,h_8,q_18,h_19]
     refine goal_outX ?_
     rw [X_15_]
     exact ⟨_,rfl,by simp [zad,zab,h_1,h_8,q_18,h_19],NoBox.restrict (by intro k hk hb;simp at hk hb;simp [hk,hb,h_1,h_8,q_18,h_19,hn_17 k (by simp [hk,hb])])⟩
   ·intro out hX
    rw [X_15_] at hX
    obtain ⟨σ_60,rfl,q_62,hn_61⟩:=hX
    cases hp
    simp [Goal,FnEnd,retR,rsrc,RSrc.val,nodupR,nodup,tupPart,h_1,h_8,q_62]
  ·try simp at h_8
   obtain ⟨y_63,h_64,hp⟩:=zaa hp
   have c_65:=C31_eq h_64
   simp at c_65
   cases hp
   simp [Goal,FnEnd,retR,rsrc,RSrc.val,nodupR,nodup,tupPart,h_1,h_8,c_65]
theorem pc11:PC Try.prog 11 C11:=pc_of (g:=g11) (zag _ g11_s.2.1 ⟨pc29,pc30,pc31,pc32,pc33,pc34,trivial⟩) (ent Try.func11) fun x y h=>w11 h
end Go.Proofs

