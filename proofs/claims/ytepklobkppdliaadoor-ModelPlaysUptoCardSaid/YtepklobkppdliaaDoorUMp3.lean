/- The model: List. -/
import Derived.Test.YtepklobkppdliaaDoorUMp2
import Derived.Test.YtepklobkppdliaaDoorUMk21
import Derived.Deep.LoopGhost
import Derived.Shelf.SlSortCmp.NoneTotal
namespace Go.Proofs.YtepklobkppdliaaDoor.Mp
open Go.RowKit Go.Proofs.YtepklobkppdliaaDoorW.PrintWords Go.Proofs.YtepklobkppdliaaDoorW.PrintLast Go.Proofs.YtepklobkppdliaaDoorW.PrintMore Go.Proofs.YtepklobkppdliaaDoor.Lib Go.Proofs.YtepklobkppdliaaDoor.Open Go.Proofs.YtepklobkppdliaaDoor.Md
/-- What was listed: the entries whose keys are done. -/
structure Seen (f : ByteArray → Option Ent) (left : Lit → Bool) (xs : List Ent) : Prop where
  once : xs.Pairwise (fun a b => a.key ≠ b.key)
  mem : ∀ k e, (left (keyL k) = false ∧ f k = some e) ↔ (e ∈ xs ∧ e.key = k)
theorem Seen.step {f : ByteArray → Option Ent} {left : Lit → Bool} {xs : List Ent} (h : Seen f left xs) {x : ByteArray} {e : Ent} (hl : left (keyL x) = true) (hf : f x = some e) (hk : e.key = x) : Seen f (fun z => left z && !z.sameKey (keyL x)) (xs ++ [e]) := by
  have hnew : ∀ a ∈ xs, a.key ≠ e.key := fun a ha ek => by
    have := ((h.mem a.key a).2 ⟨ha, rfl⟩).1
    rw [ek, hk, hl] at this
    cases this
  have hs1 : (keyL x).sameKey (keyL x) = true := by simp [keyL, Lit.sameKey]
  refine ⟨List.pairwise_append.2 ⟨h.once, List.pairwise_singleton _ _, fun a ha b hb => by rw [List.mem_singleton.1 hb]; exact hnew a ha⟩, fun k e' => ?_⟩
  by_cases hkx : k = x
  · subst hkx
    simp only [hs1, Bool.not_true, Bool.and_false, true_and]
    constructor
    · intro h2
      rw [hf] at h2
      rw [← Option.some.inj h2]
      exact ⟨List.mem_append_right _ (List.mem_singleton.2 rfl), hk⟩
    · rintro ⟨h2, h3⟩
      rcases List.mem_append.1 h2 with h2 | h2
      · have := ((h.mem k e').2 ⟨h2, h3⟩).1
        rw [hl] at this
        cases this
      · rw [List.mem_singleton.1 h2]; exact hf
  · simp only [Maps.sameKey_ne (fun e => hkx (keyL_inj e)), Bool.not_false, Bool.and_true]
    rw [h.mem]
    constructor
    · rintro ⟨h2, h3⟩; exact ⟨List.mem_append_left _ h2, h3⟩
    · rintro ⟨h2, h3⟩
      rcases List.mem_append.1 h2 with h2 | h2
      · exact ⟨h2, h3⟩
      · rw [List.mem_singleton.1 h2, hk] at h3
        exact absurd h3.symm hkx
theorem sort_none (p : Option Addr) (cap : Nat) (fv : Value) (w : World) : Calls Tryd.prog 49 #[.slice p 0 cap, fv] w fun e w' => e = .returned (.tuple #[]) ∧ w' = w := by
  have hcon := AnyF.slices_SortFunc_none Tryd.sortEnt p cap fv w
  change Calls Tryd.prog 49 _ _ _ at hcon
  exact hcon
theorem grown_row {w w' : World} {row : Option Nat} (h : Mod (fun k => some k = row) w w') : w.grownBy w' row := ⟨h.os, h.tape, h.output, h.size, fun i hi hne => h.block i hi hne⟩
set_option maxHeartbeats 8000000 in
set_option maxRecDepth 100000 in
theorem list_calls (g b n : Nat) (f : ByteArray → Option Ent) (L : List Ent) (w : World) (h : Md w g b n f) (hR : Rel f L) (hn : n ≤ 1000) :
    Calls Tryd.prog 34 #[.pointer (some ⟨g, 0, none⟩)] w fun e w' => ∃ v, e = .returned v ∧ w'.ownsRow w.heap.size 38 5 v L.length (L.flatMap Rm.ecl) ∧ Below w.heap.size w w' := by
  obtain ⟨D, hD, hf⟩ := h.mp
  have HF := Aside0.mk hf
  have HD := Aside0.mk hD
  have HM := Aside0.mk h
  have HL := Aside0.mk h.lt
  have HN := Aside0.mk hn
  have HR := Aside0.mk hR
  have c0 : w.cell? ⟨g, 0, none⟩ = some (.map (some b)) := blk_cell h.blk 0
  clear h hD hf hn hR
  go_enter Tryd.func34, Tryd.ntmps34
  go_wp2_with (at_range; refine wpList_range_own _ rfl _ 80 rfl 9 38 keyLaw Tryd.underlying80 entR b n D rfl HD.out ?_; intro w0 hrg0 hg0 hs0)
  go_frame
  have HRG := Aside0.mk hrg0
  have HB0 := Aside0.mk (show Below w.heap.size w w0 from ⟨hg0.os, hg0.tape, hg0.output, hg0.size, fun i hi => hg0.block i hi (by simp)⟩)
  have HSZ := Aside0.mk hs0
  clear hrg0 hg0 hs0 c0
  go_loopg [3] (Maps.size D) (fun R s3 wr => ∃ (left : Lit → Bool) (v : Value) (xs : List Ent), s3 = v ∧ wr.ranges Tryd.prog 9 entR b w.heap.size n D left R ∧ xs.length + R ≤ n ∧ wr.ownsRow (w.heap.size + 1) 38 5 v xs.length (xs.flatMap Rm.ecl) ∧ Seen f left xs ∧ (∀ z, left z = true → Maps.has D z = true) ∧ Below w.heap.size w wr ∧ w.heap.size < wr.heap.size)
  case atStart =>
    have h0 := ranges_le HRG.out
    refine ⟨Maps.has D, .slice none 0 0, [], rfl, HRG.out, by simpa using h0, own_nil _ _ _ _, ⟨List.Pairwise.nil, fun k e => ⟨fun h => ?_, fun h => (by cases h.1)⟩⟩, fun z hz => hz, HB0.out, by have := HSZ.out; omega⟩
    have h1 := (HF.out k).1
    rw [h.1, h.2] at h1
    cases h1
  case round =>
    obtain ⟨left, v, xs, rfl, hrg, hk, ho, hseen, hsub, hB, hsz⟩ := hrel
    obtain ⟨A, c, rfl⟩ := own_slice ho
    have HRG := Aside0.mk hrg
    have HKR := Aside0.mk hk
    have HO := Aside0.mk ho
    have HSE := Aside0.mk hseen
    have HSUB := Aside0.mk hsub
    have HB := Aside0.mk hB
    have HSR := Aside0.mk hsz
    clear hrg hk ho hseen hsub hB hsz
    go_wp2_with (first
      | (
      at_next
      refine wpList_next_ranges _ rfl _ rfl 9 keyLaw entR Value.string (fun e : Ent => .agg e.c) (fun key kl hk => by obtain ⟨x, h1, _⟩ := key_inv hk; exact ⟨x, h1⟩) (fun v y hv => by obtain ⟨e, h1, _⟩ := entR_inv hv; exact ⟨e, h1⟩) b w.heap.size n D left gk rfl HRG.out ?hd ?hm
      case hd =>
        intro hc0 hl0
        have HL0 := Aside0.mk hl0
        clear hc0 hl0
        have hmem : ∀ k e, f k = some e ↔ (e ∈ xs ∧ e.key = k) := fun k e => by rw [← HSE.out.mem, HL0.out]; simp
        have HMEM := Aside0.mk hmem
        clear hmem
        have HON := Aside0.mk (show xs.Pairwise (fun a b => a.key ≠ b.key) from HSE.out.once)
        rcases (by omega : xs.length = 0 ∨ 0 < xs.length) with hz | hz
        · have hx0 : xs = [] := List.length_eq_zero_iff.1 hz
          have HX0 := Aside0.mk (show L = [] from HR.out.uniq ⟨List.Pairwise.nil, fun k e => by rw [HMEM.out, hx0]⟩)
          have hown := HO.out
          rw [hz] at hown
          have HOW := Aside0.mk hown
          subst hx0
          clear hz hown
          go_wp2_with fail
          refine (sort_none A c (.func (.func 50) #[] #[]) wr).mono ?_
          rintro e_1 w_1 ⟨rfl, rfl⟩
          go_wp2_with fail
          go_ret
          exact ⟨_, rfl, by rw [HX0.out]; exact own_less HOW.out (Nat.le_succ _), HB.out⟩
        · obtain ⟨g0, rfl⟩ : ∃ g0, A = some ⟨g0, 0, none⟩ := by
            rcases HO.out.2 with ⟨_, e2⟩ | ⟨g0, cap, cur, e2, _⟩
            · omega
            · injection e2 with e2 _ _
              exact ⟨g0, e2⟩
          clear hz
          go_wp2_with fail
          refine (sort_calls (w.heap.size + 1) g0 xs.length c xs wr HO.out rfl (by have := HKR.out; have := HN.out; omega)).mono ?_
          rintro e_1 w_1 ⟨rfl, ys, hp, hs, ho2, hm⟩
          have HY := Aside0.mk (show ys = L from (rel_of_sorted hp hs HON.out HMEM.out).uniq HR.out)
          have HYL := Aside0.mk (show xs.length = L.length from by rw [← HY.out]; exact hp.length_eq.symm)
          have HO2 := Aside0.mk ho2
          have HM2 := Aside0.mk hm
          clear hp hs ho2 hm
          go_wp2_with fail
          go_ret
          have ho3 := own_less HO2.out (Nat.le_succ w.heap.size)
          rw [HY.out] at ho3
          exact ⟨_, rfl, by rw [← HYL.out]; exact ho3, HM2.out.after HB.out HB.out.size (fun q hq => by rw [hq]; have := own_base HO.out g0 rfl; omega)⟩
      intro x e kl y w1 cnt1 hkey hlk hv hat hrg1 hlt hg1 hs1 hen
      obtain ⟨x', hx', rfl, hxs⟩ := key_inv hkey
      obtain rfl : x = x' := by injection hx'
      obtain ⟨e', he', rfl⟩ := entR_inv hv
      obtain rfl : e = e' := by
        have := Value.agg.inj he'
        obtain ⟨a1, a2, a3, a4, a5⟩ := e
        obtain ⟨b1, b2, b3, b4, b5⟩ := e'
        simp [Ent.c] at this
        obtain ⟨h1, h2, h3, h4, h5⟩ := this
        rw [h1, h2, h3, h4, h5]
      have hfx : f x = some e := by
        have h1 := HSUB.out _ hlk
        rw [(HF.out x).1] at h1
        cases hfx : f x with
        | none => rw [hfx] at h1; cases h1
        | some e2 =>
          have h2 := (HF.out x).2 e2 hfx
          rw [hat] at h2
          rw [entD_inj h2]
      have HFX := Aside0.mk hfx
      have HLK := Aside0.mk hlk
      have HRG1 := Aside0.mk hrg1
      have HLT := Aside0.mk hlt
      have HM1 := Aside0.mk (mod_of_grown1 hg1)
      have HS1 := Aside0.mk hs1
      have HO1 := Aside0.mk (HM1.out.own HO.out (fun q hq e => by have := own_base HO.out q hq; omega))
      have HO2 := Aside0.mk (pw_own_below HO1.out (below_alloc (below_alloc (Below.refl w1.heap.size w1) (.cells (Rm.ecl e).toArray 38)) (.cells (Rm.ecl e).toArray 38)))
      have s1 : ∀ o, (w1.alloc o).heap.size = w1.heap.size + 1 := fun o => by simp
      have BL := Aside0.mk (show ((w1.alloc (.cells (Rm.ecl e).toArray 38)).alloc (.cells (Rm.ecl e).toArray 38)).heap[w1.heap.size + 1]? = some (.cells (Rm.ecl e).toArray 38 (0, 0)) by rw [← s1 (.cells (Rm.ecl e).toArray 38)]; exact blk_new _ _)
      have q1 := Aside0.mk (show ∀ j u, (Rm.ecl e)[j]? = some u → ((w1.alloc (.cells (Rm.ecl e).toArray 38)).alloc (.cells (Rm.ecl e).toArray 38)).cell? ((⟨w1.heap.size + 1, 0, none⟩ : Addr).add j) = some u from fun j u hu => by rw [add_plain, blk_cell BL.out j, List.getElem?_toArray]; exact hu)
      have q2 := Aside0.mk (show xs.length + 1 ≤ maxLen by have := HKR.out; have := HN.out; have := HLT.out; unfold maxLen; omega)
      have q3 := Aside0.mk (show (xs.length + 1) * 56 ≤ 140737488355328 by have := HKR.out; have := HN.out; have := HLT.out; omega)
      have q4 := Aside0.mk (show w.heap.size + 1 ≤ ((w1.alloc (.cells (Rm.ecl e).toArray 38)).alloc (.cells (Rm.ecl e).toArray 38)).heap.size by have := HSR.out; have := HS1.out; simp; omega)
      clear hkey hlk hv hat hrg1 hlt hg1 hs1 hx' he' hxs hfx s1
      simp only [Ent.c] at hen ⊢)
      | (refine gate_ (.call { callee := .builtin .append, args := #[.tmp 15, .tmp 17], argTypes := #[73, 73] }) rfl ?_; refine ev_append (.tmp 15) (.tmp 17) 73 38 rfl rfl (w.heap.size + 1) _ 5 56 Tryd.underlying73 Rm.info38 rfl (by decide) (.slice A xs.length c) xs.length (xs.flatMap Rm.ecl) rfl HO2.out ⟨w1.heap.size + 1, 0, none⟩ 1 1 (Rm.ecl e) rfl rfl q1.out (Rm.ecl_one e) q2.out q3.out q4.out ?_; intro vB wB1 ho hm _ _; have HOB := Aside0.mk ho; have HMB := Aside0.mk hm; clear ho hm hen))
    go_roundg cnt1
    case measure => exact HLT.out
    case rel =>
      have hb0 : Below w.heap.size w ((w1.alloc (.cells (Rm.ecl e).toArray 38)).alloc (.cells (Rm.ecl e).toArray 38)) := below_step (HM1.out.after HB.out HB.out.size (fun q hq => by rw [hq]; exact Nat.le_refl _)) (below_alloc (below_alloc (Below.refl w1.heap.size w1) (.cells (Rm.ecl e).toArray 38)) (.cells (Rm.ecl e).toArray 38))
      have hrow := own_base HO.out
      have hl := HL.out
      refine ⟨fun z => left z && !z.sameKey (keyL x), vB, xs ++ [e], rfl, ((HRG1.out.alloc _).alloc _).kept (grown_row HMB.out) (fun e1 => ?_) (fun e1 => ?_), ?_, ?_, HSE.out.step HLK.out HFX.out ((HR.out.mem x e).1 HFX.out).2, fun z hz => HSUB.out z (by simp at hz; exact hz.1), HMB.out.after hb0 hb0.size (fun q hq => by have := hrow q hq.symm; omega), ?_⟩
      · have := hrow b e1.symm; omega
      · have := hrow w.heap.size e1.symm; omega
      · rw [List.length_append]; have := HKR.out; have := HLT.out; show xs.length + 1 + cnt1 ≤ n; omega
      · rw [List.length_append, List.flatMap_append, List.flatMap_singleton]; exact HOB.out
      · exact Nat.lt_of_lt_of_le (Nat.lt_of_succ_le q4.out) HMB.out.size
end Go.Proofs.YtepklobkppdliaaDoor.Mp
