import Derived.Test.YtenalemhbjojeaaGreatDoorEvA6
import Derived.Test.YtenalemhbjojeaaGreatDoorEvA11
import Derived.Test.YtenalemhbjojeaaGreatDoorEvA16
import Derived.Test.YtenalemhbjojeaaGreatDoorRows
import Derived.WalkKit
import Derived.ProofKit
import Derived.OpenShut
import Derived.Carry
import Derived.Handy
import Derived.Lay
import Derived.SevenTiedAt
import Derived.MakeChecks
import Derived.Test.YtenalemhbjojeaaGreatDoorTie
import Derived.Test.YtenalemhbjojeaaGreatDoorCards
/- FnExactWeakenSet: the statement holds of the given program, at every input; the library's three tables that the row lists read as the program's text lays them, which the card ties. -/
set_option linter.unusedSimpArgs false
set_option linter.unusedVariables false
set_option linter.unnecessarySimpa false
noncomputable section

namespace Go.Proofs.YtenalemhbjojeaaGreatDoor.fnExactWeakenSet
open Go.ChangeShapes Go.WideShapes Go.ChangeAt Go.RowKit Go.Ev
open Go.Ev.Enc (enc)
open Go.Ev.Wf (wf)
theorem dec_3 {ds:List D} (h:Typed Tryz.prog 3 ds):∃ x:Int,enc x=ds∧wf x:=typed_int Tryz.underlying3 h
theorem dec_24 {ds:List D} (h:Typed Tryz.prog 24 ds):∃ x:(List Int),enc x=ds∧wf x:=zkg Tryz.underlying24 (fun _=>dec_3) h
theorem dec_77 {ds:List D} (h:Typed Tryz.prog 77 ds):∃ x:TNode,enc x=ds∧wf x:=by
 obtain ⟨xs,hl,rfl,hx⟩:=zmq Tryz.underlying77 h
 match xs,hl with
 | [x0,x1,x2,x3],_ =>
  obtain ⟨y0,rfl,w0⟩:=dec_24 (hx 0 _ x0 rfl rfl)
  obtain ⟨y1,rfl,w1⟩:=dec_24 (hx 1 _ x1 rfl rfl)
  obtain ⟨y2,rfl,w2⟩:=dec_3 (hx 2 _ x2 rfl rfl)
  obtain ⟨y3,rfl,w3⟩:=dec_3 (hx 3 _ x3 rfl rfl)
  exact ⟨⟨y0,y1,y2,y3⟩,rfl,⟨w0,w1,w2,w3⟩⟩
theorem dec_23 {ds:List D} (h:Typed Tryz.prog 23 ds):∃ x:(List TNode),enc x=ds∧wf x:=zkg Tryz.underlying23 (fun _=>dec_77) h
theorem dec_26 {ds:List D} (h:Typed Tryz.prog 26 ds):∃ x:TStructure,enc x=ds∧wf x:=by
 obtain ⟨xs,hl,rfl,hx⟩:=zmq Tryz.underlying26 h
 match xs,hl with
 | [x0,x1],_ =>
  obtain ⟨y0,rfl,w0⟩:=dec_23 (hx 0 _ x0 rfl rfl)
  obtain ⟨y1,rfl,w1⟩:=dec_24 (hx 1 _ x1 rfl rfl)
  exact ⟨⟨y0,y1⟩,rfl,⟨w0,w1⟩⟩
theorem dec_22 {ds:List D} (h:Typed Tryz.prog 22 ds):∃ x:(List TStructure),enc x=ds∧wf x:=zkg Tryz.underlying22 (fun _=>dec_26) h
theorem own:ownKnob Tryz.prog.godebug=none:=by kernel_rfl
theorem laid:laidOutB Tryz.prog=true:=by kernel_rfl
theorem r22:Tryz.prog.readableRec 22=true:=by kernel_rfl
theorem s22:(22:Nat) < Tryz.prog.types.size:=of_decide_eq_true (by kernel_rfl)
def L:List Nat:=[3,22,23,24,26,77]
theorem hL:closedB Tryz.prog L=true:=by kernel_rfl
theorem hF {d0:List D} (h0:Typed Tryz.prog 22 d0):C5 [argAV Tryz.prog 22 d0]=some (.one (.s (.bool true))):=by
 obtain ⟨x0,rfl,w0⟩:=dec_22 h0
 have h:=C5_eq (law_WeakenSet w0)
 have e0:argAV Tryz.prog 22 (enc x0)=av .shr x0:=by unfold argAV;rw [Tryz.underlying22];rfl
 rw [e0,h]
 rfl
def LV : List (String × DataW Unit) := [("math/bits.deBruijn32tab", Rows.laid_math_bits_deBruijn32tab), ("math/bits.deBruijn64tab", Rows.laid_math_bits_deBruijn64tab), ("internal/strconv.uint64pow10", Rows.laid_internal_strconv_uint64pow10)]
set_option maxRecDepth 100000 in
theorem lifted (os:Os) (started:os.Started) (H:Type) (enc:TypeId × Value→H) :
 ReturnsInHanded {} Tryz.checked os 5 .any (fun w args=>(Rows.fnExactWeakenSetSpec.pre enc Tryz.prog Tryz.f5 [] false w args∧laidMetH Tryz.prog LV w)∧sizedMet enc Tryz.prog Tryz.f5 (OpenSpec.ofChange Rows.fnExactWeakenSetSpec) false w args) (Rows.fnExactWeakenSetSpec.post enc Tryz.prog Tryz.f5 false true false false):=by
 refine returnsInHanded_of_change_and (C:=Tryz.checked) (X:=fun w _=>laidMetH Tryz.prog LV w) (fun _ _ _ hh h=>h.of_heap hh) own started (by kernel_rfl) Tryz.func5
  (ChangeSpec.witness_shaped (enc:=enc) (C:=Tryz.checked) (os:=os) (X:=fun w _=>laidMetH Tryz.prog LV w) false (World.laidAll Tryz.prog os LV) #[.slice none 0 0] 8 (World.laidAll_os _ _ _)
   (World.shaped_of_ZipB (by kernel_rfl) (by kernel_rfl)) (by kernel_rfl) (by kernel_rfl) (by kernel_rfl)
   (by rw [MakeChecks.laidMetH_plain _ _ _ (by kernel_rfl)];exact laidMet_laidAll _ (by kernel_rfl) (by kernel_rfl))) ?_
 intro W base args ds gs before hval0 hW hcnd _ _ _
 have hval:∀ (j:Nat) t v,Tryz.f5.params[j]?=some t→args[j]?=some v→Value.okWide Tryz.prog W .any base t v:=hval0
 have hW':=hW
 obtain ⟨p,q,hA0,hV,rfl,hfz,hnd⟩:=hW
 have hA:DataW.TrodAll enc Tryz.prog W 0 (fun _=>true) true Tryz.f5.params.toList args.toList ds p:=hA0
 rw [Tryz.params5] at hA hval
 obtain ⟨v0,vs0,d0,ds0,p0,q0,hargs,rfl,rfl,h0,r0⟩:=trodAll_cons hA
 obtain ⟨rfl,rfl,rfl⟩:=trodAll_nil r0
 obtain rfl:args = #[v0]:=by cases args;simp_all
 obtain ⟨rfl,rfl⟩:=trodVars_none hV
 obtain ⟨x0,t0,a0⟩:=arg_ok hL (t:=22) (by decide) (hval 0 22 v0 rfl rfl) h0
 have hlt:∀ x∈(p0 ++ []) ++ [],x.block < W.heap.size:=fun x hx=>hW'.lt x hx
 refine (pc5.law (hF t0) rfl (fun i x v hi hv o=>?_)).mono fun e W' he=>?_
 ·match i with
  | 0=>cases hi;cases hv;exact a0 o
  | i+1=>simp at hi
 ·obtain ⟨rfl,hk,hsz,hold⟩:=he
  have hb:Below W.heap.size W W':=⟨hk.1.1,hk.1.2.1,hk.1.2.2,hsz,hold⟩
  refine ⟨_,rfl,post_read (pa:=p0 ++ []) hW' (fun _ _ _=>(trodAll_cons_mk (shut_bool Tryz.underlying4 _) trodAll_mk0)) (fun sp hsp=>?_) (fun _=>rfl)
   (hb.frame _) (fun a ha=>(hk.2 a ha).2) (ok_one (by kernel_rfl) rfl (okWide_bool_mk Tryz.underlying4 _))⟩
  exact trodAll_cons_mk (WideElems.Trod_stays laid r22 s22 h0 (fun x hx=>hb.same (hlt x (by simp [hx]))) (fun x hx=>hsp x (by simp [hx]))) trodAll_mk0
theorem over:Rows.fnExactWeakenSetRow.holds Tryz.pinned (OpenSpec.ofChange Rows.fnExactWeakenSetSpec) :=
 OpenClaim.holds_of_wide 5 Tryz.f5 rfl rfl rfl rfl rfl rfl rfl ⟨rfl,rfl,rfl,rfl,rfl⟩ rfl rfl rfl rfl rfl (by kernel_rfl) Tryz.func5 (by kernel_rfl)
  (of_decide_eq_true (by kernel_rfl)) (by unfold Func.isWrapper;first | (rw [if_pos (by decide +kernel)];kernel_rfl) | (rw [if_neg (by decide +kernel)];exact ⟨rfl,rfl⟩))
  (fun os started H enc _=>lifted os started H enc)

theorem said:Rows.FnExactWeakenSetCardSaid :=
 Claim7.holds_tied_plain_at .later [] [.data, .data, .data] true (true, "8dee0d48b210ec730ef7247e4111c4b9f105ed2aacd7879288a7a65ae82a8d0e") false over (fun _ h => by cases h) (by kernel_rfl) (fun _ h => by cases h) fnExactWeakenSet_row_tie rfl ⟨rfl, rfl⟩ (by kernel_rfl) rfl
  (fun f fn hf hfn=>by
   obtain rfl : f = 5 := Option.some.inj ((show Tryz.prog.funcNamed "loop.example/g00590/laws.FnExactWeakenSet" = some 5 by kernel_rfl).symm.trans hf) |>.symm
   obtain rfl:fn=Tryz.f5:=(Option.some.inj (Tryz.func5.symm.trans hfn)).symm
   exact ⟨by kernel_rfl,fun j t ht=>by
    rw [Tryz.params5] at ht
    have hm:t∈[22]:=by simpa using Array.mem_of_getElem? ht
    have hall:([22].all fun u=>!Tryz.prog.wantsStandIn u)=true:=by kernel_rfl
    exact (show Tryz.prog.wantsStandIn t=false by simpa using List.all_eq_true.1 hall t hm)⟩)
  (by kernel_rfl)
end Go.Proofs.YtenalemhbjojeaaGreatDoor.fnExactWeakenSet
