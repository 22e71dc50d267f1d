/- Contracts of package net: Clone, List, a full Send. -/
import Derived.Test.YtiifekdcikcgpaaNetE
import Derived.Outline
import Derived.WalkSpells
namespace Go.Proofs.Ytiifekdcikcgpaa.Net
open Go.RowKit Go.Proofs.YtiifekdcikcgpaaW.PrintWords Go.Proofs.YtiifekdcikcgpaaW.PrintLast Go.Proofs.Ytiifekdcikcgpaa.Lib
set_option maxHeartbeats 1000000 in
set_option maxRecDepth 100000 in
theorem send_full (B g : Nat) (v : Value) (xs : List Fr) (f : Fr) (w : World) (hI : Is w B g v xs) (hl : 4000 ≤ xs.length) :
    Calls Try.prog 18 #[.pointer (some ⟨g, 0, none⟩), .agg (cl f).toArray] w fun e w' => e = .returned (.bool false) ∧ Below w.heap.size w w' := by
  have hu32 := Try.underlying32
  obtain ⟨A, c, rfl⟩ := own_slice hI.row
  have hc0 := (blk_cell hI.blk 0).trans (show #[Value.slice A xs.length c][0]? = some (Value.slice A xs.length c) from rfl)
  have hlt : decide (4000 ≤ (xs.length : Int)) = true := decide_eq_true (by omega)
  have hg := blk_lt hI.blk
  simp only [cl]
  go_enter Try.func18, Try.ntmps18
  go_wp2
  go_ret
  exact ⟨rfl, below_alloc (Below.refl _ _) _⟩
theorem clone_nil (w : World) : Calls Try.prog 30 #[.slice none 0 0] w fun e w' => e = .returned (.slice none 0 0) ∧ w = w' := by
  have h1 := fun (w : World) => Go.Lib.run_eql_slice_nil (P := Try.prog) w 38 32 none 0 0 0 0 Try.underlying38
  go_enter Try.func30, Try.ntmps30
  go_wp2
  go_ret
  exact ⟨rfl, rfl⟩
set_option maxHeartbeats 1000000 in
set_option maxRecDepth 100000 in
theorem clone_some (B b n c : Nat) (cs : List Value) (w : World) (hO : w.ownsRow B 32 9 (.slice (some ⟨b, 0, none⟩) n c) n cs) (hone : ∀ u ∈ cs, u.oneCell' = true) (hl : n ≤ 4000) :
    Calls Try.prog 30 #[.slice (some ⟨b, 0, none⟩) n c] w fun e w' => ∃ v, e = .returned v ∧ w'.ownsRow w.heap.size 32 9 v n cs ∧ Below w.heap.size w w' := by
  have hu38 := Try.underlying38
  have heq := fun (w : World) => Go.Lib.run_eql_slice_nil (P := Try.prog) w 38 32 (some ⟨b, 0, none⟩) n c 0 0 hu38
  have HO := Aside0.mk hO
  have s1 : Aside0 (0 + n ≤ maxLen) := ⟨by unfold maxLen; omega⟩
  have s2 : Aside0 ((0 + n) * 88 ≤ 140737488355328) := ⟨by omega⟩
  clear hO
  go_enter Try.func30, Try.ntmps30
  go_wp2_with (first | (refine ev_lit (.buildSlice 38 0 #[]) rfl rfl 0 #[] 32 ?hr ?_; (case hr => first | (go_simp; done) | (go_simp; rfl)); intro g1 hg1 w1 hk1 hb1; have H1 := Aside0.mk (own_empty (base := w.heap.size) (size := 9) (Nat.le_of_eq hg1.symm) hk1); have H2 := Aside0.mk (pw_own_below HO.out hb1); have H3 := Aside0.mk hb1; have H4 := Aside0.mk hg1; clear hg1 hk1 hb1) | (refine ev_append (.tmp 5) (.tmp 6) 38 32 rfl rfl w.heap.size _ 9 88 hu38 Try.info32 rfl (by decide) _ 0 [] rfl H1.out ⟨b, 0, none⟩ n c cs rfl HO.out.1 (news_of_own H2.out) hone s1.out s2.out H3.out.size ?_; intro v2 w2 ho2 hm2 _ hat2; have K1 := Aside0.mk ho2; have K2 := Aside0.mk hm2; clear ho2 hm2 hat2))
  go_ret
  exact ⟨v2, rfl, by simpa using K1.out, Below.trans H3.out (Mod.below K2.out (fun k hk => by have hk' : some k = some g1 := hk; injection hk' with hk'; rw [hk', H4.out]; exact Nat.le_refl _) H3.out.size)⟩
theorem Is.vals {W : World} {B g : Nat} {v : Value} {xs : List Fr} (h : Is W B g v xs) : (v = .slice none 0 0 ∧ xs = []) ∨ ∃ b c, v = .slice (some ⟨b, 0, none⟩) xs.length c := by
  rcases h.row.2 with ⟨h1, h2⟩ | ⟨b, c, _, h1, _⟩
  · exact .inl ⟨h1, List.length_eq_zero_iff.1 h2⟩
  · exact .inr ⟨b, c, h1⟩
set_option maxHeartbeats 1000000 in
set_option maxRecDepth 100000 in
theorem list_nil (B g : Nat) (w : World) (hI : Is w B g (.slice none 0 0) []) :
    Calls Try.prog 24 #[.pointer (some ⟨g, 0, none⟩)] w fun e w' => e = .returned (.slice none 0 0) ∧ w = w' := by
  have hc0 := (blk_cell hI.blk 0).trans (show #[Value.slice none 0 0][0]? = some (Value.slice none 0 0) from rfl)
  clear hI
  go_enter Try.func24, Try.ntmps24
  go_wp2_with (go_at_call 30; (with_reducible refine (clone_nil _).mono ?_); rintro e_1 w_1 ⟨rfl, rfl⟩)
  go_ret
  exact ⟨rfl, rfl⟩
set_option maxHeartbeats 1000000 in
set_option maxRecDepth 100000 in
theorem list_some (B g b c : Nat) (xs : List Fr) (w : World) (hI : Is w B g (.slice (some ⟨b, 0, none⟩) xs.length c) xs) (hl : xs.length ≤ 4000) :
    Calls Try.prog 24 #[.pointer (some ⟨g, 0, none⟩)] w fun e w' => ∃ v, e = .returned v ∧ w'.ownsRow w.heap.size 32 9 v xs.length (cls xs) ∧ Below w.heap.size w w' := by
  have hc0 := (blk_cell hI.blk 0).trans (show #[Value.slice (some ⟨b, 0, none⟩) xs.length c][0]? = some (Value.slice (some ⟨b, 0, none⟩) xs.length c) from rfl)
  have HI := Aside0.mk hI
  clear hI
  go_enter Try.func24, Try.ntmps24
  go_wp2_with (go_at_call 30; (with_reducible refine (clone_some B b xs.length c (cls xs) _ HI.out.row (cls_one xs) hl).mono ?_); rintro e_1 w_1 ⟨v, rfl, h1, h2⟩; have H1 := Aside0.mk h1; have H2 := Aside0.mk h2; clear h1 h2)
  go_ret
  exact ⟨v, rfl, H1.out, H2.out⟩
/-- List: a row of the call's own with the same frames. -/
theorem list_calls (B g : Nat) (v : Value) (xs : List Fr) (w : World) (hI : Is w B g v xs) (hl : xs.length ≤ 4000) :
    Calls Try.prog 24 #[.pointer (some ⟨g, 0, none⟩)] w fun e w' => ∃ v', e = .returned v' ∧ w'.ownsRow w.heap.size 32 9 v' xs.length (cls xs) ∧ Below w.heap.size w w' := by
  rcases hI.vals with ⟨rfl, rfl⟩ | ⟨b, c, rfl⟩
  · refine (list_nil B g w hI).mono ?_
    rintro e w' ⟨rfl, rfl⟩
    exact ⟨_, rfl, own_nil _ _ _ _, Below.refl _ _⟩
  · exact list_some B g b c xs w hI hl
/-- Send, room or not. -/
theorem send_calls (B g : Nat) (v : Value) (xs : List Fr) (f : Fr) (w0 w : World) (hI : Is w B g v xs) (HB : Below B w0 w) :
    Calls Try.prog 18 #[.pointer (some ⟨g, 0, none⟩), .agg (cl f).toArray] w fun e w' => e = .returned (.bool (decide (xs.length < 4000))) ∧
      ∃ v', Is w' B g v' (if xs.length < 4000 then xs ++ [f] else xs) ∧ Mod (fun k => k = g ∨ some k = v.ownBlock) w w' ∧ (v'.ownBlock = v.ownBlock ∨ ∃ b, v'.ownBlock = some b ∧ w.heap.size ≤ b) := by
  by_cases h : xs.length < 4000
  · rw [if_pos h, decide_eq_true h]
    exact send_room B g v xs f w0 w hI HB h
  · rw [if_neg h, decide_eq_false h]
    refine (send_full B g v xs f w hI (by omega)).mono ?_
    rintro e w' ⟨rfl, hb⟩
    exact ⟨rfl, v, hI.below hb, Mod.of_below hb _, .inl rfl⟩
end Go.Proofs.Ytiifekdcikcgpaa.Net
