/- The model: Twin. -/
import Derived.Test.YtepklobkppdliaaDoorUAg
import Derived.Maps.RangeWalk
namespace Go.Proofs.YtepklobkppdliaaDoor.Md
open Go.RowKit Go.Proofs.YtepklobkppdliaaDoorW.PrintWords Go.Proofs.YtepklobkppdliaaDoorW.PrintLast Go.Proofs.YtepklobkppdliaaDoorW.PrintMore Go.Proofs.YtepklobkppdliaaDoor.Lib Go.Proofs.YtepklobkppdliaaDoor.Open Go.Proofs.YtepklobkppdliaaDoor.Open
theorem key_inv {key : Value} {kl : Lit} (h : keyOf Tryd.prog 9 key = some kl) : ∃ x : ByteArray, key = .string x ∧ kl = keyL x ∧ x.size ≤ maxLen := by
  rw [keyOf_string Tryd.underlying9] at h
  cases key <;> simp [mapKey, Tryd.underlying9] at h
  obtain ⟨h1, h2⟩ := h
  exact ⟨_, rfl, h2.symm, h1⟩
theorem grown_of_mod {w w' : World} {b : Nat} (h : Mod (fun q => q = b) w w') : w.grownBy w' (some b) := ⟨h.os, h.tape, h.output, h.size, fun i hi hne => h.block i hi (fun e => hne (by rw [e]))⟩
theorem mod_of_grown1 {w w' : World} {b : Nat} (h : w.grownBy w' (some b)) : Mod (fun q => q = b) w w' := ⟨h.os, h.tape, h.output, h.size, fun i hi hne => h.block i hi (fun e => hne (Option.some.inj e))⟩
theorem ranges_le {w : World} {b r n : Nat} {D : DataW Unit} {left : Lit → Bool} {cnt : Nat} (h : w.ranges Tryd.prog 9 entR b r n D left cnt) : cnt ≤ n := by
  obtain ⟨es, clock, since, seen, c0, hb, F, hs, hD, hr, hold, hc, _⟩ := h
  rw [← hc]
  refine Nat.le_trans ?_ hs
  unfold Go.leftOf
  exact Array.size_filter_le
/-- What the copy holds while some keys are left. -/
def some_of (f : ByteArray → Option Ent) (left : Lit → Bool) : ByteArray → Option Ent := fun x => if left (keyL x) = true then none else f x
theorem some_of_step (f : ByteArray → Option Ent) (left : Lit → Bool) (x : ByteArray) (e : Ent) (h : f x = some e) : upd (some_of f left) x (some e) = some_of f (fun z => left z && !z.sameKey (keyL x)) := by
  funext j
  unfold upd some_of
  by_cases hj : j = x
  · subst hj
    have hs : (keyL j).sameKey (keyL j) = true := by simp [keyL, Lit.sameKey]
    simp only [if_true, hs, h, Bool.not_true, Bool.and_false, Bool.false_eq_true, if_false]
  · simp only [if_neg hj, Maps.sameKey_ne (fun e => hj (keyL_inj e)), Bool.not_false, Bool.and_true]
theorem some_of_vs {f : ByteArray → Option Ent} (h : ∀ k e, f k = some e → e.val.size ≤ 140737488355328) (left : Lit → Bool) : ∀ k e, some_of f left k = some e → e.val.size ≤ 140737488355328 := fun k e he => by
  unfold some_of at he
  split at he
  · cases he
  · exact h k e he
set_option maxHeartbeats 8000000 in
set_option maxRecDepth 100000 in
theorem twin_calls (g b n : Nat) (f : ByteArray → Option Ent) (w : World) (h : Md w g b n f) (hn : n < maxLen) :
    Calls Tryd.prog 24 #[.pointer (some ⟨g, 0, none⟩)] w fun e w' => ∃ g2 b2, e = .returned (.pointer (some ⟨g2, 0, none⟩)) ∧ Md w' g2 b2 n f ∧ w.heap.size ≤ g2 ∧ w.heap.size ≤ b2 ∧ Below w.heap.size w w' := by
  obtain ⟨D, hD, hf⟩ := h.mp
  have HF := Aside0.mk hf
  have HD := Aside0.mk hD
  have HM := Aside0.mk h
  have HL := Aside0.mk h.lt
  have HN := Aside0.mk hn
  clear h hD hf hn
  go_enter Tryd.func24, Tryd.ntmps24
  go_wp2_with fail
  go_at_call 14
  refine (new_calls _).mono ?_
  rintro e_0 w_0 ⟨g2, b2, rfl, hmd, hg, hb2, hb⟩
  have HM2 := Aside0.mk hmd
  have HL2 := Aside0.mk hmd.lt
  have HG := Aside0.mk (And.intro hg hb2)
  have HB := Aside0.mk hb
  have c0 : w_0.cell? ⟨g, 0, none⟩ = some (.map (some b)) := blk_cell (HM.out.below hb).blk 0
  have HDn : Aside0 (w_0.ownsMap Tryd.prog 9 entR b n D) := Aside0.mk (by
    obtain ⟨es, clock, h1, h2⟩ := HD.out
    exact ⟨es, clock, (hb.block _ (blk_lt h1)).trans h1, h2⟩)
  have HS := Aside0.mk hb.size
  clear hmd hg hb2 hb
  go_wp2_with (at_range; refine wpList_range_own _ rfl _ 80 rfl 9 38 keyLaw Tryd.underlying80 entR b n D rfl HDn.out ?_; intro w0 hrg0 hg0 hs0)
  go_frame
  have HRG := Aside0.mk hrg0
  have HB0 := Aside0.mk (show Below w_0.heap.size w_0 w0 from ⟨hg0.os, hg0.tape, hg0.output, hg0.size, fun i hi => hg0.block i hi (by simp)⟩)
  have HSZ := Aside0.mk hs0
  clear hrg0 hg0 hs0 c0
  go_loopg [] (Maps.size D) (fun R wr => ∃ (left : Lit → Bool) (k : Nat), wr.ranges Tryd.prog 9 entR b w_0.heap.size n D left R ∧ Md wr g2 b2 k (some_of f left) ∧ k + R ≤ n ∧ (∀ z, left z = true → Maps.has D z = true) ∧ Below w.heap.size w wr ∧ w_0.heap.size < wr.heap.size)
  case atStart =>
    refine ⟨Maps.has D, 0, HRG.out, ?_, ?_, fun z hz => hz, ?_, by have := HSZ.out; omega⟩
    · have he : some_of f (Maps.has D) = fun _ => none := by
        funext x
        unfold some_of
        cases hx : Maps.has D (keyL x)
        · rw [(HF.out x).1] at hx
          simp only [Bool.false_eq_true, if_false]
          cases hfx : f x
          · rfl
          · rw [hfx] at hx
            cases hx
        · rfl
      rw [he]
      exact HM2.out.below HB0.out
    · have := ranges_le HRG.out
      omega
    · exact HB.out.trans (HB0.out.mono HB.out.size)
  case round =>
    clear HM2 HRG HB HB0
    obtain ⟨left, k, hrg, hm2, hk, hsub, hB, hsz⟩ := hrel
    have HRG := Aside0.mk hrg
    have HM2 := Aside0.mk hm2
    have HKR := Aside0.mk hk
    have HSUB := Aside0.mk hsub
    have HB := Aside0.mk hB
    have HSR := Aside0.mk hsz
    clear hrg hm2 hk hsub hB hsz
    go_wp2_with (
      at_next
      refine wpList_next_ranges _ rfl _ rfl 9 keyLaw entR Value.string (fun e : Ent => .agg e.c) (fun key kl hk => by obtain ⟨x, h1, _⟩ := key_inv hk; exact ⟨x, h1⟩) (fun v y hv => by obtain ⟨e, h1, _⟩ := entR_inv hv; exact ⟨e, h1⟩) b w_0.heap.size n D left gk rfl HRG.out ?hd ?hm
      case hd =>
        intro hc0 hl0
        have HL0 := Aside0.mk hl0
        clear hc0 hl0
        go_wp2
        go_ret
        have he : some_of f left = f := by
          funext x
          unfold some_of
          rw [HL0.out]
          rfl
        have hm := HM2.out
        rw [he] at hm
        exact ⟨g2, b2, rfl, ⟨hm.blk, hm.mp.mono (by have := HKR.out; omega), hm.vs⟩, HG.out.1, HG.out.2, HB.out⟩
      intro x e kl y w1 cnt1 hkey hlk hv hat hrg1 hlt hg1 hs1 hen
      obtain ⟨x', hx', rfl, hxs⟩ := key_inv hkey
      obtain rfl : x = x' := by injection hx'
      obtain ⟨e', he', rfl⟩ := entR_inv hv
      obtain rfl : e = e' := by
        have := Value.agg.inj he'
        obtain ⟨a1, a2, a3, a4, a5⟩ := e
        obtain ⟨b1, b2, b3, b4, b5⟩ := e'
        simp [Ent.c] at this
        obtain ⟨h1, h2, h3, h4, h5⟩ := this
        rw [h1, h2, h3, h4, h5]
      have hfx : f x = some e := by
        have h1 := HSUB.out _ hlk
        rw [(HF.out x).1] at h1
        cases hfx : f x with
        | none => rw [hfx] at h1; cases h1
        | some e2 =>
          have h2 := (HF.out x).2 e2 hfx
          rw [hat] at h2
          rw [entD_inj h2]
      have HFX := Aside0.mk hfx
      have HXS := Aside0.mk hxs
      have HRG1 := Aside0.mk hrg1
      have HLT := Aside0.mk hlt
      have HM1 := Aside0.mk (mod_of_grown1 hg1)
      have HS1 := Aside0.mk hs1
      have HKL := Aside0.mk (show k < maxLen by have := HKR.out; have := HN.out; omega)
      have HM2n := Aside0.mk (HM2.out.mod HM1.out (fun e => by have := HL2.out; omega) (fun e => by have := HL2.out; omega))
      clear hkey hlk hv hat hrg1 hlt hg1 hs1 hx' he' hxs hfx HM2
      have HM2 := HM2n
      clear HM2n
      have HNE := Aside0.mk HM2.out.ne
      have HM2a := Aside0.mk (HM2.out.below (below_alloc (Below.refl _ _) (.cells e.c 38)))
      simp only [Ent.c] at hen ⊢)
    change Code.wp _ _ _ _ (w1.alloc (.cells e.c 38))
    refine Ev.region_ev (Mst (w1.alloc (.cells e.c 38)) b2 (k + 1) (upd (some_of f left) x (some e)) 6) (by kernel_rfl) (by kernel_rfl) mst_start ?_
    refine Ev.ev_step (v := .pointer (some ⟨g2, 0, none⟩)) rfl rfl (mst_pure (by decide) (fun _ => rfl)) ?_
    simp only [Act.put, List.setIfInBounds_toArray, List.set_cons_succ, List.set_cons_zero]
    refine Ev.ev_step (v := .pointer (some ⟨g2, 0, none⟩)) rfl rfl (mst_pure (by decide) (fun _ => by first | rfl | (go_simp; done) | (go_simp; rfl))) ?_
    simp only [Act.put, List.setIfInBounds_toArray, List.set_cons_succ, List.set_cons_zero]
    refine Ev.ev_step (v := .pointer (some ⟨g2, 0, none⟩)) rfl rfl (mst_pure (by decide) (fun _ => rfl)) ?_
    simp only [Act.put, List.setIfInBounds_toArray, List.set_cons_succ, List.set_cons_zero]
    refine Ev.ev_step (v := .map (some b2)) rfl rfl (mst_load (by decide) ⟨g2, 0, none⟩ (blk_cell HM2a.out.blk 0) (fun e => HNE.out e.symm) (fun w hc => by go_simp)) ?_
    simp only [Act.put, List.setIfInBounds_toArray, List.set_cons_succ, List.set_cons_zero]
    refine Ev.ev_step (v := .string x) rfl rfl (mst_pure (by decide) (fun _ => rfl)) ?_
    simp only [Act.put, List.setIfInBounds_toArray, List.set_cons_succ, List.set_cons_zero]
    refine Ev.ev_step (v := .agg e.c) rfl rfl (mst_whole (by decide) w1.heap.size 38 e.c (blk_new w1 (.cells e.c 38)) (by have := HM2.out.lt.2; omega) (fun w h => Ev.run_load_whole 38 (.tmp 5) rfl _ rfl 38 e.c _ h Tryd.underlying38 rfl (by kernel_rfl))) ?_
    simp only [Act.put, List.setIfInBounds_toArray, List.set_cons_succ, List.set_cons_zero]
    refine Ev.ev_step (v := undef) rfl rfl (mst_store (.tmp 20) (.tmp 21) (.tmp 22) rfl rfl x rfl e rfl HM2a.out.mp HKL.out HXS.out) ?_
    simp only [Act.put]
    refine Ev.ev_nil (fun w_e hw_e => ?_)
    obtain ⟨hM_e, hP_e⟩ := mst_end hw_e (by decide)
    clear hw_e
    have HME := Aside0.mk hM_e
    have HPE := Aside0.mk hP_e
    clear hM_e hP_e hen
    go_wp2
    go_roundg cnt1
    case measure => exact HLT.out
    case rel =>
      have hp := HPE.out
      rw [some_of_step f left x e HFX.out] at hp
      have hg := HG.out
      have hl := HL.out
      have hl2 := HL2.out
      refine ⟨fun z => left z && !z.sameKey (keyL x), k + 1, (HRG1.out.alloc _).kept (grown_of_mod HME.out) (by simp; omega) (by simp; omega), ⟨HME.out.blk HM2a.out.blk (fun e => HNE.out e.symm), hp, some_of_vs HM.out.vs _⟩, by have := HKR.out; have := HLT.out; omega, fun z hz => HSUB.out z (by simp at hz; exact hz.1), ?_, ?_⟩
      · have h1 := HM1.out.after HB.out HB.out.size (fun q hq => by rw [hq]; exact HS.out)
        have h2 := below_step h1 (below_alloc (Below.refl _ _) (.cells e.c 38))
        exact HME.out.after h2 h2.size (fun q hq => by rw [hq]; exact hg.2)
      · have h1 := HME.out.size
        have h2 := HSR.out
        have h3 := HS1.out
        have h4 : (w1.alloc (.cells e.c 38)).heap.size = w1.heap.size + 1 := by simp
        omega
end Go.Proofs.YtepklobkppdliaaDoor.Md
