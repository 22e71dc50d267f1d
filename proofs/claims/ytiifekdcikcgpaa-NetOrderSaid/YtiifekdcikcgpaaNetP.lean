/- Contract of the document's own Net (package depotref9): Pick. -/
import Derived.Test.YtiifekdcikcgpaaNetR
import Derived.Outline
namespace Go.Proofs.Ytiifekdcikcgpaa.Net
open Go.RowKit Go.Proofs.YtiifekdcikcgpaaW.PrintWords Go.Proofs.YtiifekdcikcgpaaW.PrintLast Go.Proofs.Ytiifekdcikcgpaa.Lib
theorem take_some {α : Type} {l : List α} {n j : Nat} {u : α} (h : (l.take n)[j]? = some u) : l[j]? = some u := by
  rw [List.getElem?_take] at h
  by_cases c : j < n
  · rwa [if_pos c] at h
  · rw [if_neg c] at h; cases h
set_option maxHeartbeats 2000000 in
set_option maxRecDepth 100000 in
theorem pick_low (B g : Nat) (v : Value) (xs : List Fr) (k : Int) (keep : Bool) (w : World) (hI : RIs w B g v xs) (hk : k < 0) :
    Calls Try.prog 27 #[.pointer (some ⟨g, 0, none⟩), .int .i64 k, .bool keep] w fun e w' => e = .returned (.tuple #[.agg (cl z).toArray, .bool false]) ∧ Below w.heap.size w w' := by
  obtain ⟨A, c, rfl⟩ := own_slice hI.row
  have hu32 := Try.underlying32
  have NG : Aside0 (g < w.heap.size) := ⟨blk_lt hI.blk⟩
  have NB : Aside0 (∀ q, (Value.slice A xs.length c).ownBlock = some q → q < w.heap.size) := ⟨hI.lt⟩
  have HI := Aside0.mk hI
  have HB := Aside0.mk (Below.refl w.heap.size w)
  clear hI
  have hc0 := (blk_cell HI.out.blk 0).trans (show #[Value.slice A xs.length c][0]? = some (Value.slice A xs.length c) from rfl)
  have h1 : decide (k < 0) = true := decide_eq_true hk
  go_enter Try.func27, Try.ntmps27
  go_wp2_with (first | (refine gate_ (.alloc 32) rfl ?_; refine box_event ?hg (N := 6) ?hd (cs := (cl z).toArray) (t := 32) ?hr ?_; (case hd => rfl); (case hg => rfl); (case hr => first | (go_simp; done) | (go_simp; rfl)); intro g6 hgb w_1 hbox hb; have K_g6 := Aside0.mk hbox; have G_g6 := Aside0.mk (show w.heap.size ≤ g6 from by rw [hgb]; exact HB.out.size); have HI_n := Aside0.mk (HI.out.below hb); have HB_n := Aside0.mk (below_step HB.out hb); clear HI; have HI := HI_n; clear HI_n; clear HB; have HB := HB_n; clear HB_n; have hc0_n := (blk_cell HI.out.blk 0).trans (show #[Value.slice A xs.length c][0]? = some (Value.slice A xs.length c) from rfl); clear hc0; have hc0 := hc0_n; clear hc0_n; clear hgb hbox hb) | (refine ev_store_row (.store 32 (.tmp 6) (.tmp 20)) rfl rfl rfl 32 (.tmp 6) (.tmp 20) rfl g6 (cl z).toArray rfl rfl 32 (cl z).toArray K_g6.out (by kernel_rfl) rfl (cls_all z) ?_; intro w_2 hw2 hm2; have HI_n := Aside0.mk (HI.out.mod1 hm2 (fun e => by have := NG.out; have := G_g6.out; omega) (fun e => by have := NB.out _ e; have := G_g6.out; omega)); have HB_n := Aside0.mk (Below.trans HB.out (Mod.below hm2 (fun k hk => by rw [hk]; exact G_g6.out) HB.out.size)); clear HI; have HI := HI_n; clear HI_n; clear HB; have HB := HB_n; clear HB_n; clear K_g6; have K_g6 := Aside0.mk hw2; have hc0_n := (blk_cell HI.out.blk 0).trans (show #[Value.slice A xs.length c][0]? = some (Value.slice A xs.length c) from rfl); clear hc0; have hc0 := hc0_n; clear hc0_n; clear hw2 hm2))
  refine bodyPost_ret (results_ct rfl _ _ g6 32 (cl z).toArray (0, 0) _ rfl K_g6.out Try.underlying32 rfl (by kernel_rfl)) rfl ?_
  exact ⟨rfl, HB.out⟩
set_option maxHeartbeats 2000000 in
set_option maxRecDepth 100000 in
theorem pick_high (B g : Nat) (v : Value) (xs : List Fr) (k : Int) (keep : Bool) (w : World) (hI : RIs w B g v xs) (hk : (xs.length : Int) ≤ k) :
    Calls Try.prog 27 #[.pointer (some ⟨g, 0, none⟩), .int .i64 k, .bool keep] w fun e w' => e = .returned (.tuple #[.agg (cl z).toArray, .bool false]) ∧ Below w.heap.size w w' := by
  obtain ⟨A, c, rfl⟩ := own_slice hI.row
  have hu32 := Try.underlying32
  have NG : Aside0 (g < w.heap.size) := ⟨blk_lt hI.blk⟩
  have NB : Aside0 (∀ q, (Value.slice A xs.length c).ownBlock = some q → q < w.heap.size) := ⟨hI.lt⟩
  have HI := Aside0.mk hI
  have HB := Aside0.mk (Below.refl w.heap.size w)
  clear hI
  have hc0 := (blk_cell HI.out.blk 0).trans (show #[Value.slice A xs.length c][0]? = some (Value.slice A xs.length c) from rfl)
  have h1 : decide (k < 0) = false := decide_eq_false (by omega)
  have h2 : decide ((xs.length : Int) ≤ k) = true := decide_eq_true hk
  go_enter Try.func27, Try.ntmps27
  go_wp2_with (first | (refine gate_ (.alloc 32) rfl ?_; refine box_event ?hg (N := 6) ?hd (cs := (cl z).toArray) (t := 32) ?hr ?_; (case hd => rfl); (case hg => rfl); (case hr => first | (go_simp; done) | (go_simp; rfl)); intro g6 hgb w_1 hbox hb; have K_g6 := Aside0.mk hbox; have G_g6 := Aside0.mk (show w.heap.size ≤ g6 from by rw [hgb]; exact HB.out.size); have HI_n := Aside0.mk (HI.out.below hb); have HB_n := Aside0.mk (below_step HB.out hb); clear HI; have HI := HI_n; clear HI_n; clear HB; have HB := HB_n; clear HB_n; have hc0_n := (blk_cell HI.out.blk 0).trans (show #[Value.slice A xs.length c][0]? = some (Value.slice A xs.length c) from rfl); clear hc0; have hc0 := hc0_n; clear hc0_n; clear hgb hbox hb) | (refine ev_store_row (.store 32 (.tmp 6) (.tmp 20)) rfl rfl rfl 32 (.tmp 6) (.tmp 20) rfl g6 (cl z).toArray rfl rfl 32 (cl z).toArray K_g6.out (by kernel_rfl) rfl (cls_all z) ?_; intro w_2 hw2 hm2; have HI_n := Aside0.mk (HI.out.mod1 hm2 (fun e => by have := NG.out; have := G_g6.out; omega) (fun e => by have := NB.out _ e; have := G_g6.out; omega)); have HB_n := Aside0.mk (Below.trans HB.out (Mod.below hm2 (fun k hk => by rw [hk]; exact G_g6.out) HB.out.size)); clear HI; have HI := HI_n; clear HI_n; clear HB; have HB := HB_n; clear HB_n; clear K_g6; have K_g6 := Aside0.mk hw2; have hc0_n := (blk_cell HI.out.blk 0).trans (show #[Value.slice A xs.length c][0]? = some (Value.slice A xs.length c) from rfl); clear hc0; have hc0 := hc0_n; clear hc0_n; clear hw2 hm2))
  refine bodyPost_ret (results_ct rfl _ _ g6 32 (cl z).toArray (0, 0) _ rfl K_g6.out Try.underlying32 rfl (by kernel_rfl)) rfl ?_
  exact ⟨rfl, HB.out⟩
theorem pick_out (B g : Nat) (v : Value) (xs : List Fr) (k : Int) (keep : Bool) (w : World) (hI : RIs w B g v xs) (hk : k < 0 ∨ (xs.length : Int) ≤ k) :
    Calls Try.prog 27 #[.pointer (some ⟨g, 0, none⟩), .int .i64 k, .bool keep] w fun e w' => e = .returned (.tuple #[.agg (cl z).toArray, .bool false]) ∧ Below w.heap.size w w' :=
  hk.elim (pick_low B g v xs k keep w hI) (pick_high B g v xs k keep w hI)
set_option maxHeartbeats 2000000 in
set_option maxRecDepth 100000 in
theorem pick_keep (B g : Nat) (v : Value) (xs : List Fr) (k : Nat) (x : Fr) (w : World) (hI : RIs w B g v xs) (hx : xs[k]? = some x) (hl : xs.length ≤ 4000) :
    Calls Try.prog 27 #[.pointer (some ⟨g, 0, none⟩), .int .i64 k, .bool true] w fun e w' => e = .returned (.tuple #[.agg (cl x).toArray, .bool true]) ∧ Below w.heap.size w w' := by
  obtain ⟨b, c, rfl, _⟩ := hI.some_ (by have := (List.getElem?_eq_some_iff.1 hx).1; omega)
  have hk := (List.getElem?_eq_some_iff.1 hx).1
  have HX := Aside0.mk hx
  clear hx
  have h1 : decide ((k : Int) < 0) = false := decide_eq_false (by omega)
  have h2 : decide ((xs.length : Int) ≤ (k : Int)) = false := decide_eq_false (by omega)
  have hu32 := Try.underlying32
  have NG : Aside0 (g < w.heap.size) := ⟨blk_lt hI.blk⟩
  have NB : Aside0 (∀ q, (Value.slice (some ⟨b, 0, none⟩) xs.length c).ownBlock = some q → q < w.heap.size) := ⟨hI.lt⟩
  have HI := Aside0.mk hI
  have HB := Aside0.mk (Below.refl w.heap.size w)
  clear hI
  have hc0 := (blk_cell HI.out.blk 0).trans (show #[Value.slice (some ⟨b, 0, none⟩) xs.length c][0]? = some (Value.slice (some ⟨b, 0, none⟩) xs.length c) from rfl)
  go_enter Try.func27, Try.ntmps27
  go_wp2_with (first | (refine gate_ (.alloc 32) rfl ?_; refine box_event ?hg (N := 6) ?hd (cs := (cl z).toArray) (t := 32) ?hr ?_; (case hd => rfl); (case hg => rfl); (case hr => first | (go_simp; done) | (go_simp; rfl)); intro g6 hgb w_1 hbox hb; have K_g6 := Aside0.mk hbox; have G_g6 := Aside0.mk (show w.heap.size ≤ g6 from by rw [hgb]; exact HB.out.size); have HI_n := Aside0.mk (HI.out.below hb); have HB_n := Aside0.mk (below_step HB.out hb); clear HI; have HI := HI_n; clear HI_n; clear HB; have HB := HB_n; clear HB_n; have hc0_n := (blk_cell HI.out.blk 0).trans (show #[Value.slice (some ⟨b, 0, none⟩) xs.length c][0]? = some (Value.slice (some ⟨b, 0, none⟩) xs.length c) from rfl); clear hc0; have hc0 := hc0_n; clear hc0_n; clear hgb hbox hb) | (refine ev_load_mid (.load 32 (.tmp 26)) rfl rfl 32 (.tmp 26) rfl b (k * 9) (by go_simp) (cl x) _ (HI.out.range k x HX.out) hu32 rfl (by kernel_rfl) ?_) | (refine gate_ (.alloc 32) rfl ?_; refine box_event ?hg (N := 8) ?hd (cs := (cl z).toArray) (t := 32) ?hr ?_; (case hd => rfl); (case hg => rfl); (case hr => first | (go_simp; done) | (go_simp; rfl)); intro g8 hgb w_1 hbox hb; have K_g8 := Aside0.mk hbox; have G_g8 := Aside0.mk (show w.heap.size ≤ g8 from by rw [hgb]; exact HB.out.size); have L_68 := Aside0.mk (show g6 ≠ g8 from by rw [hgb]; exact Nat.ne_of_lt (blk_lt K_g6.out)); have HI_n := Aside0.mk (HI.out.below hb); have HB_n := Aside0.mk (below_step HB.out hb); have K_g6_n := Aside0.mk (blk_below K_g6.out hb); clear HI; have HI := HI_n; clear HI_n; clear HB; have HB := HB_n; clear HB_n; clear K_g6; have K_g6 := K_g6_n; clear K_g6_n; have hc0_n := (blk_cell HI.out.blk 0).trans (show #[Value.slice (some ⟨b, 0, none⟩) xs.length c][0]? = some (Value.slice (some ⟨b, 0, none⟩) xs.length c) from rfl); clear hc0; have hc0 := hc0_n; clear hc0_n; clear hgb hbox hb) | (refine ev_store_row (.store 32 (.tmp 8) (.tmp 27)) rfl rfl rfl 32 (.tmp 8) (.tmp 27) rfl g8 (cl x).toArray rfl rfl 32 (cl z).toArray K_g8.out (by kernel_rfl) rfl (cls_all x) ?_; intro w_2 hw2 hm2; have HI_n := Aside0.mk (HI.out.mod1 hm2 (fun e => by have := NG.out; have := G_g8.out; omega) (fun e => by have := NB.out _ e; have := G_g8.out; omega)); have HB_n := Aside0.mk (Below.trans HB.out (Mod.below hm2 (fun k hk => by rw [hk]; exact G_g8.out) HB.out.size)); have K_g6_n := Aside0.mk (hm2.blk K_g6.out (fun e => L_68.out e)); clear HI; have HI := HI_n; clear HI_n; clear HB; have HB := HB_n; clear HB_n; clear K_g6; have K_g6 := K_g6_n; clear K_g6_n; clear K_g8; have K_g8 := Aside0.mk hw2; have hc0_n := (blk_cell HI.out.blk 0).trans (show #[Value.slice (some ⟨b, 0, none⟩) xs.length c][0]? = some (Value.slice (some ⟨b, 0, none⟩) xs.length c) from rfl); clear hc0; have hc0 := hc0_n; clear hc0_n; clear hw2 hm2) | (refine ev_load_row (.load 32 (.tmp 8)) rfl rfl 32 (.tmp 8) rfl g8 rfl 32 (cl x).toArray _ K_g8.out hu32 rfl (by kernel_rfl) ?_) | (refine ev_store_row (.store 32 (.tmp 6) (.tmp 49)) rfl rfl rfl 32 (.tmp 6) (.tmp 49) rfl g6 (cl x).toArray rfl rfl 32 (cl z).toArray K_g6.out (by kernel_rfl) rfl (cls_all x) ?_; intro w_2 hw2 hm2; have HI_n := Aside0.mk (HI.out.mod1 hm2 (fun e => by have := NG.out; have := G_g6.out; omega) (fun e => by have := NB.out _ e; have := G_g6.out; omega)); have HB_n := Aside0.mk (Below.trans HB.out (Mod.below hm2 (fun k hk => by rw [hk]; exact G_g6.out) HB.out.size)); have K_g8_n := Aside0.mk (hm2.blk K_g8.out (fun e => L_68.out e.symm)); clear HI; have HI := HI_n; clear HI_n; clear HB; have HB := HB_n; clear HB_n; clear K_g8; have K_g8 := K_g8_n; clear K_g8_n; clear K_g6; have K_g6 := Aside0.mk hw2; have hc0_n := (blk_cell HI.out.blk 0).trans (show #[Value.slice (some ⟨b, 0, none⟩) xs.length c][0]? = some (Value.slice (some ⟨b, 0, none⟩) xs.length c) from rfl); clear hc0; have hc0 := hc0_n; clear hc0_n; clear hw2 hm2))
  refine bodyPost_ret (results_ct rfl _ _ g6 32 (cl x).toArray (0, 0) _ rfl K_g6.out Try.underlying32 rfl (by kernel_rfl)) rfl ?_
  exact ⟨rfl, HB.out⟩
set_option maxHeartbeats 2000000 in
set_option maxRecDepth 100000 in
theorem pick_in (B g : Nat) (v : Value) (xs : List Fr) (k : Nat) (x : Fr) (w : World) (hI : RIs w B g v xs) (hx : xs[k]? = some x) (hl : xs.length ≤ 4000) :
    Calls Try.prog 27 #[.pointer (some ⟨g, 0, none⟩), .int .i64 k, .bool false] w fun e w' => e = .returned (.tuple #[.agg (cl x).toArray, .bool true]) ∧
      ∃ v', RIs w' B g v' (xs.eraseIdx k) ∧ Mod (fun k => k = g) w w' ∧ ∀ q, v'.ownBlock = some q → w.heap.size ≤ q := by
  obtain ⟨b, c, rfl, _⟩ := hI.some_ (by have := (List.getElem?_eq_some_iff.1 hx).1; omega)
  have hk := (List.getElem?_eq_some_iff.1 hx).1
  have HX := Aside0.mk hx
  clear hx
  have h1 : decide ((k : Int) < 0) = false := decide_eq_false (by omega)
  have h2 : decide ((xs.length : Int) ≤ (k : Int)) = false := decide_eq_false (by omega)
  have hone := cls_one xs
  have hcl := hI.row.1
  obtain ⟨hB, hnc⟩ : B ≤ b ∧ xs.length ≤ c := by
    rcases hI.row.2 with ⟨h, _⟩ | ⟨b', c', cur, h, hB, hblk, hnc, hcm, hcs, htk⟩
    · simp at h
    · simp only [Value.slice.injEq, Option.some.injEq, Addr.mk.injEq, and_true, true_and] at h
      obtain ⟨rfl, rfl⟩ := h
      exact ⟨hB, hnc⟩
  have hu32 := Try.underlying32
  have NG : Aside0 (g < w.heap.size) := ⟨blk_lt hI.blk⟩
  have NB : Aside0 (∀ q, (Value.slice (some ⟨b, 0, none⟩) xs.length c).ownBlock = some q → q < w.heap.size) := ⟨hI.lt⟩
  have HI := Aside0.mk hI
  have HB := Aside0.mk (Below.refl w.heap.size w)
  clear hI
  have hc0 := (blk_cell HI.out.blk 0).trans (show #[Value.slice (some ⟨b, 0, none⟩) xs.length c][0]? = some (Value.slice (some ⟨b, 0, none⟩) xs.length c) from rfl)
  go_enter Try.func27, Try.ntmps27
  go_wp2_with (first | (refine gate_ (.alloc 32) rfl ?_; refine box_event ?hg (N := 6) ?hd (cs := (cl z).toArray) (t := 32) ?hr ?_; (case hd => rfl); (case hg => rfl); (case hr => first | (go_simp; done) | (go_simp; rfl)); intro g6 hgb w_1 hbox hb; have K_g6 := Aside0.mk hbox; have G_g6 := Aside0.mk (show w.heap.size ≤ g6 from by rw [hgb]; exact HB.out.size); have HI_n := Aside0.mk (HI.out.below hb); have HB_n := Aside0.mk (below_step HB.out hb); clear HI; have HI := HI_n; clear HI_n; clear HB; have HB := HB_n; clear HB_n; have hc0_n := (blk_cell HI.out.blk 0).trans (show #[Value.slice (some ⟨b, 0, none⟩) xs.length c][0]? = some (Value.slice (some ⟨b, 0, none⟩) xs.length c) from rfl); clear hc0; have hc0 := hc0_n; clear hc0_n; clear hgb hbox hb) | (refine ev_load_mid (.load 32 (.tmp 26)) rfl rfl 32 (.tmp 26) rfl b (k * 9) (by go_simp) (cl x) _ (HI.out.range k x HX.out) hu32 rfl (by kernel_rfl) ?_) | (refine gate_ (.alloc 32) rfl ?_; refine box_event ?hg (N := 8) ?hd (cs := (cl z).toArray) (t := 32) ?hr ?_; (case hd => rfl); (case hg => rfl); (case hr => first | (go_simp; done) | (go_simp; rfl)); intro g8 hgb w_1 hbox hb; have K_g8 := Aside0.mk hbox; have G_g8 := Aside0.mk (show w.heap.size ≤ g8 from by rw [hgb]; exact HB.out.size); have L_68 := Aside0.mk (show g6 ≠ g8 from by rw [hgb]; exact Nat.ne_of_lt (blk_lt K_g6.out)); have HI_n := Aside0.mk (HI.out.below hb); have HB_n := Aside0.mk (below_step HB.out hb); have K_g6_n := Aside0.mk (blk_below K_g6.out hb); clear HI; have HI := HI_n; clear HI_n; clear HB; have HB := HB_n; clear HB_n; clear K_g6; have K_g6 := K_g6_n; clear K_g6_n; have hc0_n := (blk_cell HI.out.blk 0).trans (show #[Value.slice (some ⟨b, 0, none⟩) xs.length c][0]? = some (Value.slice (some ⟨b, 0, none⟩) xs.length c) from rfl); clear hc0; have hc0 := hc0_n; clear hc0_n; clear hgb hbox hb) | (refine ev_store_row (.store 32 (.tmp 8) (.tmp 27)) rfl rfl rfl 32 (.tmp 8) (.tmp 27) rfl g8 (cl x).toArray rfl rfl 32 (cl z).toArray K_g8.out (by kernel_rfl) rfl (cls_all x) ?_; intro w_2 hw2 hm2; have HI_n := Aside0.mk (HI.out.mod1 hm2 (fun e => by have := NG.out; have := G_g8.out; omega) (fun e => by have := NB.out _ e; have := G_g8.out; omega)); have HB_n := Aside0.mk (Below.trans HB.out (Mod.below hm2 (fun k hk => by rw [hk]; exact G_g8.out) HB.out.size)); have K_g6_n := Aside0.mk (hm2.blk K_g6.out (fun e => L_68.out e)); clear HI; have HI := HI_n; clear HI_n; clear HB; have HB := HB_n; clear HB_n; clear K_g6; have K_g6 := K_g6_n; clear K_g6_n; clear K_g8; have K_g8 := Aside0.mk hw2; have hc0_n := (blk_cell HI.out.blk 0).trans (show #[Value.slice (some ⟨b, 0, none⟩) xs.length c][0]? = some (Value.slice (some ⟨b, 0, none⟩) xs.length c) from rfl); clear hc0; have hc0 := hc0_n; clear hc0_n; clear hw2 hm2))
  obtain ⟨W, hW⟩ : ∃ W, W = w_2 := ⟨_, rfl⟩
  rw [← hW] at HI HB K_g6 K_g8 hc0 ⊢
  clear hW
  have SB := HB.out.size
  have E0 : Aside0 ((W.alloc (.cells #[] 32)).drew.heap[W.heap.size]? = some (.cells #[] 32 (0, 0))) := ⟨blk_new W _⟩
  have E1 : Aside0 ((W.alloc (.cells #[] 32)).drew.ownsRow w.heap.size 32 9 (.slice (some ⟨W.heap.size, 0, none⟩) 0 0) 0 []) := ⟨own_empty SB E0.out⟩
  have E2 : Aside0 (RIs (W.alloc (.cells #[] 32)).drew B g (Value.slice (some ⟨b, 0, none⟩) xs.length c) xs) := ⟨⟨blk_alloc HI.out.blk _, HI.out.ge, HI.out.row.alloc _⟩⟩
  have hca : (W.alloc (.cells #[] 32)).cell? ⟨g, 0, none⟩ = some (Value.slice (some ⟨b, 0, none⟩) xs.length c) := (blk_cell E2.out.blk 0).trans (show #[Value.slice (some ⟨b, 0, none⟩) xs.length c][0]? = some (Value.slice (some ⟨b, 0, none⟩) xs.length c) from rfl)
  have E3 : Aside0 (∀ j u, ((cls xs).take (k * 9))[j]? = some u → (W.alloc (.cells #[] 32)).drew.cell? ((⟨b, 0, none⟩ : Addr).add j) = some u) := ⟨fun j u hu => news_of_own E2.out.row j u (take_some hu)⟩
  have n1 : Aside0 (((cls xs).take (k * 9)).length = k * 9) := ⟨by rw [List.length_take, hcl]; omega⟩
  have n2 : Aside0 (((cls xs).drop ((k + 1) * 9)).length = (xs.length - (k + 1)) * 9) := ⟨by rw [List.length_drop, hcl]; omega⟩
  have o1 : Aside0 (∀ u ∈ (cls xs).take (k * 9), u.oneCell' = true) := ⟨fun u hu => hone u (List.mem_of_mem_take hu)⟩
  have o2 : Aside0 (∀ u ∈ (cls xs).drop ((k + 1) * 9), u.oneCell' = true) := ⟨fun u hu => hone u (List.mem_of_mem_drop hu)⟩
  have b1 : Aside0 (0 + k ≤ maxLen) := ⟨by unfold maxLen; omega⟩
  have b2 : Aside0 ((0 + k) * 88 ≤ 140737488355328) := ⟨by omega⟩
  have b3 : Aside0 (k + (xs.length - (k + 1)) ≤ maxLen) := ⟨by unfold maxLen; omega⟩
  have b4 : Aside0 ((k + (xs.length - (k + 1))) * 88 ≤ 140737488355328) := ⟨by omega⟩
  have b5 : Aside0 (w.heap.size ≤ (W.alloc (.cells #[] 32)).drew.heap.size) := ⟨by show w.heap.size ≤ (W.alloc (.cells #[] 32)).heap.size; simp; omega⟩
  have gW := blk_lt HI.out.blk
  have bW := HI.out.lt b rfl
  have q1 : Aside0 (g ≠ W.heap.size) := ⟨by omega⟩
  have q5 : Aside0 (g ≠ W.heap.size + 1) := ⟨by omega⟩
  have q2 : Aside0 (b ≠ W.heap.size) := ⟨by omega⟩
  have q3 : Aside0 (w.heap.size ≤ W.heap.size) := ⟨SB⟩
  have q4 : Aside0 (b ≠ g) := ⟨fun e => HI.out.row_ne (by rw [e]; rfl)⟩
  have x1 : IntKind.i64.wrap ((k : Int) + 1) = (k : Int) + 1 := by rw [IntKind.wrap_i64]; omega
  have x3 : ((k : Int) + 1).toNat = k + 1 := by omega
  have x4 : (0 : Int) ≤ (k : Int) + 1 := by omega
  have x5 : k ≤ c := by omega
  have x8 : (k : Int) + 1 ≤ (xs.length : Int) := by omega
  have x6 : k + 1 ≤ c := by omega
  have x7 : k + 1 ≤ xs.length := by omega
  obtain ⟨AD, hA, hsrc⟩ : ∃ AD : Addr, (if c = k + 1 then some (⟨b, 0, none⟩ : Addr) else some ⟨b, (k + 1) * 9, none⟩) = some AD ∧ Aside0 (∀ W1 : World, RIs W1 B g (Value.slice (some ⟨b, 0, none⟩) xs.length c) xs → ∀ j u, ((cls xs).drop ((k + 1) * 9))[j]? = some u → W1.cell? (AD.add j) = some u) := by
    by_cases h : c = k + 1
    · refine ⟨⟨b, 0, none⟩, by simp [h], ⟨fun W1 _ t u hu => ?_⟩⟩
      have h0 : ((cls xs).drop ((k + 1) * 9)).length = 0 := by rw [n2.out]; omega
      rw [List.length_eq_zero_iff.1 h0] at hu
      simp at hu
    · refine ⟨⟨b, (k + 1) * 9, none⟩, by simp [h], ⟨fun W1 hW1 t u hu => ?_⟩⟩
      have ht := (List.getElem?_eq_some_iff.1 hu).1
      rw [n2.out] at ht
      rw [Addr.add_mid, hW1.row.cellAt _ (by omega)]
      rw [List.getElem?_drop] at hu
      exact hu
  clear SB hcl hone hB hnc gW bW h1 h2
  go_region_law (first | (refine st_append (W := (W.alloc (.cells #[] 32)).drew) (.tmp 31) (.tmp 37) 38 32 rfl rfl w.heap.size _ 9 88 Try.underlying38 Try.info32 rfl (by decide) (.slice (some ⟨W.heap.size, 0, none⟩) 0 0) 0 [] rfl E1.out ⟨b, 0, none⟩ k c ((cls xs).take (k * 9)) rfl n1.out E3.out o1.out b1.out b2.out b5.out ?_; intro v1 w1 ho1 hm1 _ hat1; rw [Nat.zero_add] at ho1; have F1 := Aside0.mk ho1; have F2 := Aside0.mk hm1; have F3 := Aside0.mk (show v1.ownBlock = some W.heap.size ∨ v1.ownBlock = some (W.heap.size + 1) from hat1.imp id (fun e => e.trans (by simp))); have F4 := Aside0.mk (E2.out.mod hm1 (fun e => q1.out (Option.some.inj e)) (fun q hq e => q2.out ((Option.some.inj hq).trans (Option.some.inj e)))); have hc1 := (blk_cell F4.out.blk 0).trans (show #[Value.slice (some ⟨b, 0, none⟩) xs.length c][0]? = some (Value.slice (some ⟨b, 0, none⟩) xs.length c) from rfl); have F5 := Aside0.mk (show w.heap.size ≤ w1.heap.size from Nat.le_trans b5.out hm1.size); clear ho1 hm1 hat1) | (refine st_append (W := w1) (.tmp 38) (.tmp 45) 38 32 rfl rfl w.heap.size _ 9 88 Try.underlying38 Try.info32 rfl (by decide) v1 k _ rfl F1.out AD (xs.length - (k + 1)) (c - (k + 1)) ((cls xs).drop ((k + 1) * 9)) rfl n2.out (hsrc.out w1 F4.out) o2.out b3.out b4.out F5.out ?_; intro v2 w2 ho2 hm2 _ hat2; obtain ⟨A2, c2, rfl⟩ := own_slice ho2; have J1 := Aside0.mk ho2; have J2 := Aside0.mk (show Mod (fun k => k = W.heap.size ∨ k = W.heap.size + 1) w1 w2 from hm2.mono (fun q hq => F3.out.elim (fun e => .inl (Option.some.inj (hq.trans e))) (fun e => .inr (Option.some.inj (hq.trans e))))); have J3 := Aside0.mk hat2; have hb2 := J2.out.blk F4.out.blk (fun e => e.elim q1.out q5.out); have J4 := Aside0.mk hb2; have hcs := (blk_cell hb2 0).trans (show #[Value.slice (some ⟨b, 0, none⟩) xs.length c][0]? = some (Value.slice (some ⟨b, 0, none⟩) xs.length c) from rfl); have hfs := blk_frozen hb2 0; clear ho2 hm2 hat2 hb2))
  all_goals
    have W8 := Aside0.mk (show Mod (fun k => k = g ∨ w.heap.size ≤ k) w (w2.setCell ⟨g, 0, none⟩ (Value.slice A2 (k + (xs.length - (k + 1))) c2)) from ((((Mod.of_below HB.out _).alloc (.cells #[] 32)).drew.trans F2.out (fun q hq => .inr (by have := Option.some.inj hq; rw [this]; exact q3.out))).trans J2.out (fun q hq => .inr (hq.elim (fun e => by rw [e]; exact q3.out) (fun e => by rw [e]; exact Nat.le_succ_of_le q3.out)))).setCell (.inl (.inl rfl)) _)
    have lift : ∀ (gb : Nat) (cs : Array Value), W.heap[gb]? = some (.cells cs 32 (0, 0)) → w.heap.size ≤ gb → (w2.setCell ⟨g, 0, none⟩ (Value.slice A2 (k + (xs.length - (k + 1))) c2)).heap[gb]? = some (.cells cs 32 (0, 0)) := by
      intro gb cs hgb hle
      have hlt := blk_lt hgb
      have hg := NG.out
      refine blk_far (J2.out.blk (F2.out.blk (blk_alloc hgb _) (fun e => ?_)) (fun e => ?_)) ?_ _
      · have e1 : gb = W.heap.size := Option.some.inj e
        omega
      · rcases e with e | e <;> omega
      · show gb ≠ g; omega
    have L8 := Aside0.mk (lift g8 _ K_g8.out G_g8.out)
    have L6 := Aside0.mk (lift g6 _ K_g6.out G_g6.out)
    have FIN := Aside0.mk (RIs.put (own_weaken J1.out (Nat.le_of_lt (Nat.lt_of_le_of_lt HI.out.ge NG.out))) J4.out HI.out.ge (ys := xs.eraseIdx k) (by rw [List.length_eraseIdx_of_lt (List.getElem?_eq_some_iff.1 HX.out).1]; omega) (by rw [List.nil_append]; exact cls_erase xs k))
    clear lift hca hc0 hc1 hcs hfs
    go_wp2_with (first | (refine ev_load_row (.load 32 (.tmp 8)) rfl rfl 32 (.tmp 8) rfl g8 rfl 32 (cl x).toArray _ L8.out hu32 rfl (by kernel_rfl) ?_) | (refine ev_store_row (.store 32 (.tmp 6) (.tmp 49)) rfl rfl rfl 32 (.tmp 6) (.tmp 49) rfl g6 (cl x).toArray rfl rfl 32 (cl z).toArray L6.out (by kernel_rfl) rfl (cls_all x) ?_; intro w_9 hw9 hm9; have Z1 := Aside0.mk hw9; have Z2 := Aside0.mk hm9; clear hw9 hm9))
    refine bodyPost_ret (results_ct rfl _ _ g6 32 (cl x).toArray (0, 0) _ rfl Z1.out Try.underlying32 rfl (by kernel_rfl)) rfl ?_
    refine ⟨rfl, _, FIN.out.mod1 Z2.out (fun e => by have := NG.out; have := G_g6.out; omega) (fun e => ?_), ?_, fun q hq => own_base J1.out q hq⟩
    · have hlt := blk_lt K_g6.out
      have hw1 := F2.out.size
      have hw2 : W.heap.size ≤ (W.alloc (.cells #[] 32)).drew.heap.size := by show W.heap.size ≤ (W.alloc (.cells #[] 32)).heap.size; simp
      rcases J3.out with h | h
      · rcases F3.out with h' | h'
        · have := Option.some.inj (e.symm.trans (h.trans h')); omega
        · have := Option.some.inj (e.symm.trans (h.trans h')); omega
      · have := Option.some.inj (e.symm.trans h); omega
    · exact (W8.out.trans Z2.out (fun q hq => .inl (.inr (by rw [hq]; exact G_g6.out)))).tight
end Go.Proofs.Ytiifekdcikcgpaa.Net
