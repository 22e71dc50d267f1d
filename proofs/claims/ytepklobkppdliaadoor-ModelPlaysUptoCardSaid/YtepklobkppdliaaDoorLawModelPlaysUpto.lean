/- ModelPlays answers true, where what comes in is small (a tied card). -/
import Derived.Test.YtepklobkppdliaaDoorRows
import Derived.Test.YtepklobkppdliaaDoorTie
import Derived.Test.YtepklobkppdliaaDoorCards
import Derived.Test.YtepklobkppdliaaDoorULaid
import Derived.Test.YtepklobkppdliaaDoorUMp7
import Derived.Test.YtepklobkppdliaaDoorUAa
import Derived.Test.YtepklobkppdliaaDoorUMd36
import Derived.JoinedCond
import Derived.WalkKit
import Derived.ProofKit
import Derived.OpenShut
import Derived.ShutString
import Derived.ChangeOld
import Derived.Below
import Derived.SizedLaws
import Derived.LaidMore
import Derived.Stop.Joined
import Derived.SevenTiedAt
namespace Go.Proofs.YtepklobkppdliaaDoor.modelPlaysUpto
open Go.ChangeShapes Go.WideShapes Go.ChangeAt Go.RowKit
open Go.ChangeMaps (open_string shut_string)
set_option linter.unusedVariables false
theorem own : ownKnob Tryd.prog.godebug = none := by kernel_rfl
theorem laidOut : laidOutB Tryd.prog = true := by kernel_rfl
set_option maxRecDepth 100000 in
theorem lifted (os : Os) (started : os.Started) (H : Type) (enc : TypeId × Value → H) :
    ReturnsInHanded {} Tryd.checked os 13 .any (fun w args => ((Rows.OpenSpec.upto Rows.modelPlaysSpec).pre enc Tryd.prog Tryd.f13 [] false w args ∧ laidMetH Tryd.prog Md.laidL w) ∧ sizedMet enc Tryd.prog Tryd.f13 (OpenSpec.ofChange Rows.modelPlaysSpec) false w args) (Rows.modelPlaysSpec.post enc Tryd.prog Tryd.f13 false true false false) := by
  refine Md.ret_small (C := Tryd.checked) Rows.modelPlaysSpec (X := fun w _ => laidMetH Tryd.prog Md.laidL w) (fun _ _ _ hh h => h.of_heap hh) own started (by kernel_rfl) Tryd.func13
    (Md.witness_small (enc := enc) (C := Tryd.checked) (os := os) (X := fun w _ => laidMetH Tryd.prog Md.laidL w) Rows.modelPlaysSpec (World.doorLaid Tryd.prog 24 os) #[.slice none 0 0] 8 rfl (World.shaped_of_RefB (by kernel_rfl) (by kernel_rfl)) (by kernel_rfl) ([.nil], [], []) (by kernel_rfl) (by kernel_rfl) (by kernel_rfl) (Md.door_met os _)) ?_
  intro W base args ds gs before hval0 hW hbk hsz0 hL
  have hP := Md.pow_of_laid hL
  clear hL
  have hsz : (DataW.weightsEach Tryd.prog (Tryd.f13.params.toList ++ Rows.modelPlaysSpec.plain.varTypes Tryd.prog) (ds ++ gs)).all (· ≤ reachBytes) = true := hsz0
  have hval : ∀ (j : Nat) t v, Tryd.f13.params[j]? = some t → args[j]? = some v → Value.okWide Tryd.prog W .any base t v := hval0
  have hW' := hW
  obtain ⟨p, q, hA0, hV, rfl, hfz, hnd⟩ := hW
  have hA : DataW.TrodAll enc Tryd.prog W 0 (fun _ => true) true Tryd.f13.params.toList args.toList ds p := hA0
  rw [Tryd.params13] at hA hval hsz
  obtain ⟨v0, vs0, d0, ds0, p0, q0, hargs, rfl, rfl, h0, r0⟩ := trodAll_cons hA
  obtain ⟨rfl, rfl, rfl⟩ := trodAll_nil r0
  obtain rfl : args = #[v0] := by cases args; simp_all
  obtain ⟨rfl, rfl⟩ := trodVars_none hV
  obtain ⟨a0, len0, cap0, rfl⟩ := okWide_slice Tryd.underlying50 (hval 0 50 v0 rfl rfl)
  have k0 := h0
  have lt0 : ∀ x ∈ p0, x.block < W.heap.size := by obtain ⟨m, hm⟩ := k0; exact DataW.trod_lt m _ _ _ hm
  obtain ⟨hc0, l0, gA0⟩ : len0 ≤ cap0 ∧ ∃ xs, Md.Asks W a0 len0 xs := by
    obtain ⟨fuel, hf⟩ := h0
    exact (fun hf => Md.open_asks hf (Nat.le_trans (@Md.bulk_get _ _ 0 _ rfl) hbk)) hf
  clear hA0 hval0 hsz0 hsz
  refine (Mp.plays_calls (c0 := cap0) W hP gA0).mono fun e W' ⟨he, bel⟩ => ?_
  subst he
  exact ⟨_, rfl, _, _, _, [], _, [], hW', trodAll_mk1 (shut_bool Tryd.underlying4 _), (trodAll_cons_mk (Below.trod laidOut (by kernel_rfl) (of_decide_eq_true (by kernel_rfl)) k0 bel lt0) trodAll_mk0), rfl, bel.frame _, fun h => by cases h⟩
theorem over : Rows.modelPlaysUptoRow.holds Tryd.pinned (Rows.OpenSpec.upto Rows.modelPlaysSpec) :=
  OpenClaim.holds_of_cond 13 Tryd.f13 rfl rfl rfl rfl rfl rfl rfl ⟨rfl, rfl, rfl, rfl, rfl⟩ rfl rfl rfl rfl rfl (by kernel_rfl) Tryd.func13 (by kernel_rfl)
    (of_decide_eq_true (by kernel_rfl)) (by unfold Func.isWrapper; first | (rw [if_pos (by decide +kernel)]; kernel_rfl) | (rw [if_neg (by decide +kernel)]; exact ⟨rfl, rfl⟩))
    (fun os started H enc _ _ => lifted os started H enc)
/-- The tied card. -/
theorem proved : Rows.ModelPlaysUptoCardSaid :=
  Claim7.holds_tied_plain_at .later [] [.data, .data, .data] true Rows.modelPlaysUptoCard.stood.harness false
    over (fun _ h => by cases h) (by kernel_rfl) (fun _ h => by cases h) modelPlaysUpto_row_tie rfl ⟨rfl, rfl⟩ (by kernel_rfl) rfl
    (fun f fn hf hfn => by
      obtain rfl : f = 13 := Option.some.inj ((show Tryd.prog.funcNamed Rows.modelPlaysUptoRow.func = some 13 by kernel_rfl).symm.trans hf) |>.symm
      obtain rfl : fn = Tryd.f13 := (Option.some.inj (Tryd.func13.symm.trans hfn)).symm
      exact ⟨by kernel_rfl, fun j t ht => by
        rw [Tryd.params13] at ht
        have hm : t ∈ [50] := by simpa using Array.mem_of_getElem? ht
        have hall : ([50].all fun u => !Tryd.prog.wantsStandIn u) = true := by kernel_rfl
        exact (show Tryd.prog.wantsStandIn t = false by simpa using List.all_eq_true.1 hall t hm)⟩)
    (by kernel_rfl)
#print axioms proved
end Go.Proofs.YtepklobkppdliaaDoor.modelPlaysUpto
namespace Go.Proofs.YtepklobkppdliaaDoor
/-- The card, under a short name, for the claim. -/
theorem modelPlaysUpto_holds : Rows.ModelPlaysUptoCardSaid := modelPlaysUpto.proved
end Go.Proofs.YtepklobkppdliaaDoor
