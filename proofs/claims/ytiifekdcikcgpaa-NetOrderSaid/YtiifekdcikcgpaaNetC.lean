import Derived.Test.YtiifekdcikcgpaaNetB
namespace Go.Proofs.Ytiifekdcikcgpaa.Net
open Go.RowKit Go.Proofs.YtiifekdcikcgpaaW.PrintWords Go.Proofs.YtiifekdcikcgpaaW.PrintLast Go.Proofs.Ytiifekdcikcgpaa.Lib
theorem Try.zero32 (w : World) : (zeroValue 32).run Try.prog w = .ok (.agg (cl z).toArray) w := by kernel_rfl
set_option maxHeartbeats 1000000 in
set_option maxRecDepth 100000 in
theorem delete_at (B b n c k : Nat) (cs : List Value) (w : World) (hO : w.ownsRow B 32 9 (.slice (some ⟨b, 0, none⟩) n c) n cs) (hone : ∀ u ∈ cs, u.oneCell' = true) (hk : k < n) (hl : n ≤ 4000) :
    Calls Try.prog 29 #[.slice (some ⟨b, 0, none⟩) n c, .int .i64 k, .int .i64 ((k : Int) + 1)] w fun e w' => e = .returned (.slice (some ⟨b, 0, none⟩) (n - 1) c) ∧
      w'.ownsRow B 32 9 (.slice (some ⟨b, 0, none⟩) (n - 1) c) (n - 1) (cs.take (k * 9) ++ cs.drop ((k + 1) * 9)) ∧ Mod (fun k => k = b) w w' := by
  have hcl := hO.1
  rcases hO.2 with ⟨h, _⟩ | ⟨b', c', cur, h, hB, hblk, hnc, hcm, hcs, htk⟩
  · simp at h
  simp only [Value.slice.injEq, Option.some.injEq, Addr.mk.injEq, and_true, true_and] at h
  obtain ⟨rfl, rfl⟩ := h
  have hu38 := Try.underlying38
  have e1 : (((k : Int) == (k : Int) + 1)) = false := beq_eq_false_iff_ne.2 (by omega)
  have e2 : IntKind.i64.wrap ((k : Int) + 1) = (k : Int) + 1 := by rw [IntKind.wrap_i64]; omega
  have e3 : ((k : Int) + 1).toNat = k + 1 := by omega
  have e4 : (0 : Int) ≤ (k : Int) + 1 := by omega
  have e5 : k ≤ c := by omega
  have e8 : (k : Int) + 1 ≤ (n : Int) := by omega
  have e6 : k + 1 ≤ c := by omega
  have e7 : k + 1 ≤ n := by omega
  obtain ⟨news, hnews⟩ : ∃ news, news = cs.drop ((k + 1) * 9) := ⟨_, rfl⟩
  have hnl : news.length = (n - (k + 1)) * 9 := by rw [hnews, List.length_drop, hcl]; omega
  obtain ⟨AD, hA, hsrc⟩ : ∃ AD : Addr, (if c = k + 1 then some (⟨b, 0, none⟩ : Addr) else some ⟨b, (k + 1) * 9, none⟩) = some AD ∧ Aside0 (∀ j u, news[j]? = some u → w.drew.cell? (AD.add j) = some u) := by
    by_cases h : c = k + 1
    · refine ⟨⟨b, 0, none⟩, by simp [h], ⟨fun t u hu => ?_⟩⟩
      have h0 : news.length = 0 := by rw [hnl]; omega
      rw [List.length_eq_zero_iff.1 h0] at hu
      simp at hu
    · refine ⟨⟨b, (k + 1) * 9, none⟩, by simp [h], ⟨fun t u hu => ?_⟩⟩
      have ht : t < (n - (k + 1)) * 9 := by
        have := (List.getElem?_eq_some_iff.1 hu).1
        rwa [hnl] at this
      rw [Addr.add_mid]
      show w.cell? _ = some u
      rw [hO.cellAt _ (by omega)]
      rw [hnews, List.getElem?_drop] at hu
      exact hu
  have s1 : Aside0 (news.length = (n - (k + 1)) * 9) := ⟨hnl⟩
  have s2 : Aside0 (∀ u ∈ news, u.oneCell' = true) := ⟨fun u hu => hone u (by rw [hnews] at hu; exact List.mem_of_mem_drop hu)⟩
  have s3 : Aside0 (∀ j, j < news.length → (w.drew.cell? ⟨b, 0 + k * 9 + j, none⟩).isSome = true ∧ w.drew.frozen? ⟨b, 0 + k * 9 + j, none⟩ = false) := ⟨by
    intro j hj
    rw [hnl] at hj
    refine ⟨?_, blk_frozen (w := w.drew) hblk _⟩
    show (w.cell? _).isSome = true
    rw [blk_cell hblk, Array.getElem?_eq_getElem (by omega)]
    rfl⟩
  have s4 : Aside0 (k + (n - (k + 1)) ≤ c) := ⟨by omega⟩
  have e9 : ¬ c = k + (n - (k + 1)) := by omega
  have s5 : Aside0 (0 < n - (k + (n - (k + 1)))) := ⟨by omega⟩
  have s6 : Aside0 ((k + (n - (k + 1))) * 9 + (n - (k + (n - (k + 1)))) * 9 ≤ cur.size) := ⟨by omega⟩
  obtain ⟨W1, hW1⟩ : ∃ W1, W1 = w.drew.setCells b (0 + k * 9) news := ⟨_, rfl⟩
  obtain ⟨cur1, hb1, hs1, hc1⟩ := setCells_row news (0 + k * 9) w.drew cur hblk (by omega)
  obtain ⟨o1, o2, o3, o4⟩ := setCells_same b news (0 + k * 9) w.drew
  have HM : Aside0 (Mod (fun k => k = b) w W1) := ⟨by rw [hW1]; exact ⟨o1, o2, o3, Nat.le_of_eq o4.symm, fun i _ hi => setCells_far news (0 + k * 9) (w := w.drew) i hi⟩⟩
  rw [← hW1] at hb1
  have HB1 := Aside0.mk hb1
  replace s6 : Aside0 ((k + (n - (k + 1))) * 9 + (n - (k + (n - (k + 1)))) * 9 ≤ cur1.size) := ⟨by rw [hs1]; exact s6.out⟩
  have HS1 := Aside0.mk hs1
  have HCS := Aside0.mk hcs
  have HTK := Aside0.mk htk
  have HC1 := Aside0.mk hc1
  have HW := Aside0.mk hW1
  have HO := Aside0.mk hO
  have HBK := Aside0.mk hblk
  have HN := Aside0.mk hnews
  clear hW1 hb1 hc1 o1 o2 o3 o4 hO hblk htk hnews hnl hcl hs1 hcs
  obtain ⟨i0, hi0', hz0', hz1', hz2'⟩ := info_parts Try.info32
  have hi0 := Aside0.mk hi0'
  have hz1 := Aside0.mk hz1'
  clear hi0' hz0' hz1' hz2'
  go_enter Try.func29, Try.ntmps29
  go_wp2_with fail
  go_region_law (refine step_append_room rfl (.tmp 22) (.tmp 25) 38 rfl 32 i0 9 hu38 hi0.out hz1.out b 0 k c (by simp [Act.eval, Act.put]) AD (n - (k + 1)) (c - (k + 1)) news (by simp [Act.eval, Act.put]) s1.out hsrc.out s2.out s4.out s3.out ?_; rw [← HW.out])
  go_wp2_with (refine ev_clear (.call { callee := .builtin .clear, args := #[.tmp 31], argTypes := #[38] }) rfl rfl rfl 38 32 (.tmp 31) rfl hu38 (.agg (cl z).toArray) Try.zero32 (cl_one z) b ((k + (n - (k + 1))) * 9) (n - (k + (n - (k + 1)))) (c - (k + (n - (k + 1)))) (by simp [Act.eval]) s5.out cur1 32 HB1.out s6.out ?_; intro cur2 w2 hb2 hs2 ht2 hm2; have HB2 := Aside0.mk hb2; have HS2 := Aside0.mk hs2; have HT2 := Aside0.mk ht2; have HM2 := Aside0.mk hm2; clear hb2 hs2 ht2 hm2)
  go_ret
  have em : k + (n - (k + 1)) = n - 1 := by omega
  refine ⟨by rw [em]; rfl, ?_, HM.out.trans HM2.out (fun i hi => .inl hi)⟩
  have hlen : (cs.take (k * 9) ++ cs.drop ((k + 1) * 9)).length = (n - 1) * 9 := by
    rw [List.length_append, List.length_take, List.length_drop, HO.out.1]; omega
  refine ⟨hlen, .inr ⟨b, c, cur2, rfl, hB, HB2.out, by omega, hcm, by rw [HS2.out, HS1.out, HCS.out], ?_⟩⟩
  have h1 := HT2.out
  rw [em] at h1
  rw [h1, HC1.out, Nat.zero_add, HN.out]
  have h2 : cur.toList.take (k * 9) = cs.take (k * 9) := by rw [← HTK.out, List.take_take, Nat.min_eq_left (by omega)]
  rw [h2, List.take_left' hlen]
end Go.Proofs.Ytiifekdcikcgpaa.Net
