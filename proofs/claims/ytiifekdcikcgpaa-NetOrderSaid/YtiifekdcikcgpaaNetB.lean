/- Contracts of package net: Copy, Len, New, List: what they answer; nothing that was there is changed. -/
import Derived.Test.YtiifekdcikcgpaaNetA
namespace Go.Proofs.Ytiifekdcikcgpaa.Net
open Go.RowKit Go.Proofs.YtiifekdcikcgpaaW.PrintWords Go.Proofs.YtiifekdcikcgpaaW.PrintLast Go.Proofs.Ytiifekdcikcgpaa.Lib

theorem Is.below {W w1 : World} {B g : Nat} {v : Value} {xs : List Fr} (h : Is W B g v xs) (hb : Below W.heap.size W w1) : Is w1 B g v xs :=
  ⟨(hb.block _ (blk_lt h.blk)).trans h.blk, h.ge, pw_own_below h.row hb⟩
theorem Is.mod {S : Nat → Prop} {W w1 : World} {B g : Nat} {v : Value} {xs : List Fr} (h : Is W B g v xs) (hm : Mod S W w1) (hg : ¬ S g) (hv : ∀ k, v.ownBlock = some k → ¬ S k) : Is w1 B g v xs :=
  ⟨hm.blk h.blk hg, h.ge, hm.own h.row hv⟩
/-- A block that is none of the net's. -/
theorem Is.mod1 {W w1 : World} {B g gb : Nat} {v : Value} {xs : List Fr} (h : Is W B g v xs) (hm : Mod (fun k => k = gb) W w1) (hg : g ≠ gb) (hv : v.ownBlock ≠ some gb) : Is w1 B g v xs :=
  h.mod hm hg (fun k hk hS => hv (by rw [hk, hS]))
theorem Is.range {W : World} {B g b n c : Nat} {xs : List Fr} (h : Is W B g (.slice (some ⟨b, 0, none⟩) n c) xs) (k : Nat) (x : Fr) (hx : xs[k]? = some x) : W.rangeAt b (k * 9) (cl x) := by
  have hn : n = xs.length := by
    rcases h.row.2 with ⟨h1, _⟩ | ⟨_, _, _, h1, _⟩
    · simp at h1
    · injection h1
  subst hn
  have hk := (List.getElem?_eq_some_iff.1 hx).1
  refine range_of_own h.row _ _ (fun j u hu => flat_at cl 9 cl_length xs k x hx j u hu) ?_
  rw [cl_length]; omega
theorem Is.some_ {W : World} {B g : Nat} {v : Value} {xs : List Fr} (h : Is W B g v xs) (hp : 0 < xs.length) : ∃ b c, v = .slice (some ⟨b, 0, none⟩) xs.length c ∧ B ≤ b := by
  obtain ⟨b, c, h1, h2, _⟩ := h.row.form hp
  exact ⟨b, c, h1, h2⟩
theorem Is.lt {W : World} {B g : Nat} {v : Value} {xs : List Fr} (h : Is W B g v xs) : ∀ k, v.ownBlock = some k → k < W.heap.size := fun k hk => own_lt h.row k hk
theorem cls_all (x : Fr) : (cl x).toArray.all (·.oneCell') = true := all_oneCell_toArray (cl_one x)
set_option maxHeartbeats 1000000 in
set_option maxRecDepth 100000 in
theorem copy_in (B g : Nat) (v : Value) (xs : List Fr) (k : Nat) (x : Fr) (w : World) (hI : Is w B g v xs) (hx : xs[k]? = some x) (hl : xs.length ≤ 4000) :
    Calls Try.prog 21 #[.pointer (some ⟨g, 0, none⟩), .int .i64 k] w fun e w' => e = .returned (.tuple #[.agg (cl x).toArray, .bool true]) ∧ Below w.heap.size w w' := by
  have hu32 := Try.underlying32
  have hk := (List.getElem?_eq_some_iff.1 hx).1
  obtain ⟨b, c, rfl, _⟩ := hI.some_ (by omega)
  have HX := Aside0.mk hx
  have NG : Aside0 (g ≠ w.heap.size) := ⟨Nat.ne_of_lt (blk_lt hI.blk)⟩
  have NB : Aside0 ((Value.slice (some ⟨b, 0, none⟩) xs.length c).ownBlock ≠ some w.heap.size) := ⟨fun h => by have := hI.lt _ h; omega⟩
  have HI := Aside0.mk hI
  have HB := Aside0.mk (Below.refl w.heap.size w)
  clear hI hx
  have hc0 := (blk_cell HI.out.blk 0).trans (show #[Value.slice (some ⟨b, 0, none⟩) xs.length c][0]? = some (Value.slice (some ⟨b, 0, none⟩) xs.length c) from rfl)
  have h1 : decide ((k : Int) < 0) = false := decide_eq_false (by omega)
  have h2 : decide ((xs.length : Int) ≤ (k : Int)) = false := decide_eq_false (by omega)
  go_enter Try.func21, Try.ntmps21
  go_wp2_with (first | (refine gate_ (.alloc 32) rfl ?_; refine box_event ?hg (N := 4) ?hd (cs := (cl z).toArray) (t := 32) ?hr ?_; (case hd => rfl); (case hg => rfl); (case hr => first | (go_simp; done) | (go_simp; rfl)); intro gb hgb w_1 hbox hb; have K_gb := Aside0.mk hbox; have G_gb := Aside0.mk hgb; have HI_n := Aside0.mk (HI.out.below hb); have HB_n := Aside0.mk (below_step HB.out hb); clear HI; have HI := HI_n; clear HI_n; clear HB; have HB := HB_n; clear HB_n; have hc0_n := (blk_cell HI.out.blk 0).trans (show #[Value.slice (some ⟨b, 0, none⟩) xs.length c][0]? = some (Value.slice (some ⟨b, 0, none⟩) xs.length c) from rfl); clear hc0; have hc0 := hc0_n; clear hc0_n; clear hgb hbox hb) | (refine ev_load_mid (.load 32 (.tmp 23)) rfl rfl 32 (.tmp 23) rfl b (k * 9) (by go_simp) (cl x) _ (HI.out.range k x HX.out) hu32 rfl (by kernel_rfl) ?_) | (refine ev_store_row (.store 32 (.tmp 4) (.tmp 24)) rfl rfl rfl 32 (.tmp 4) (.tmp 24) rfl gb (cl x).toArray rfl rfl 32 (cl z).toArray K_gb.out (by kernel_rfl) rfl (cls_all x) ?_; intro w_2 hw2 hm2; have HI_n := Aside0.mk (HI.out.mod1 hm2 (fun e => NG.out (e.trans G_gb.out)) (fun e => NB.out (e.trans (congrArg some G_gb.out)))); have HB_n := Aside0.mk (Below.trans HB.out (Mod.below hm2 (fun k hk => Nat.le_of_eq (hk.trans G_gb.out).symm) HB.out.size)); clear HI; have HI := HI_n; clear HI_n; clear HB; have HB := HB_n; clear HB_n; have hc0_n := (blk_cell HI.out.blk 0).trans (show #[Value.slice (some ⟨b, 0, none⟩) xs.length c][0]? = some (Value.slice (some ⟨b, 0, none⟩) xs.length c) from rfl); clear hc0; have hc0 := hc0_n; clear hc0_n; clear K_gb; have K_gb := Aside0.mk hw2; clear hw2 hm2))
  refine bodyPost_ret (results_ct rfl _ _ gb 32 (cl x).toArray (0, 0) _ rfl K_gb.out Try.underlying32 rfl (by kernel_rfl)) rfl ?_
  exact ⟨rfl, HB.out⟩
set_option maxHeartbeats 1000000 in
set_option maxRecDepth 100000 in
theorem copy_low (B g : Nat) (v : Value) (xs : List Fr) (k : Int) (w : World) (hI : Is w B g v xs) (hk : k < 0) :
    Calls Try.prog 21 #[.pointer (some ⟨g, 0, none⟩), .int .i64 k] w fun e w' => e = .returned (.tuple #[.agg (cl z).toArray, .bool false]) ∧ Below w.heap.size w w' := by
  have hu32 := Try.underlying32
  obtain ⟨A, c, rfl⟩ := own_slice hI.row
  have NG : Aside0 (g ≠ w.heap.size) := ⟨Nat.ne_of_lt (blk_lt hI.blk)⟩
  have NB : Aside0 ((Value.slice A xs.length c).ownBlock ≠ some w.heap.size) := ⟨fun h => by have := hI.lt _ h; omega⟩
  have HI := Aside0.mk hI
  have HB := Aside0.mk (Below.refl w.heap.size w)
  clear hI
  have hc0 := (blk_cell HI.out.blk 0).trans (show #[Value.slice A xs.length c][0]? = some (Value.slice A xs.length c) from rfl)
  have h1 : decide (k < 0) = true := decide_eq_true hk
  go_enter Try.func21, Try.ntmps21
  go_wp2_with (first | (refine gate_ (.alloc 32) rfl ?_; refine box_event ?hg (N := 4) ?hd (cs := (cl z).toArray) (t := 32) ?hr ?_; (case hd => rfl); (case hg => rfl); (case hr => first | (go_simp; done) | (go_simp; rfl)); intro gb hgb w_1 hbox hb; have K_gb := Aside0.mk hbox; have G_gb := Aside0.mk hgb; have HI_n := Aside0.mk (HI.out.below hb); have HB_n := Aside0.mk (below_step HB.out hb); clear HI; have HI := HI_n; clear HI_n; clear HB; have HB := HB_n; clear HB_n; have hc0_n := (blk_cell HI.out.blk 0).trans (show #[Value.slice A xs.length c][0]? = some (Value.slice A xs.length c) from rfl); clear hc0; have hc0 := hc0_n; clear hc0_n; clear hgb hbox hb) | (refine ev_store_row (.store 32 (.tmp 4) (.tmp 17)) rfl rfl rfl 32 (.tmp 4) (.tmp 17) rfl gb (cl z).toArray rfl rfl 32 (cl z).toArray K_gb.out (by kernel_rfl) rfl (cls_all z) ?_; intro w_2 hw2 hm2; have HI_n := Aside0.mk (HI.out.mod1 hm2 (fun e => NG.out (e.trans G_gb.out)) (fun e => NB.out (e.trans (congrArg some G_gb.out)))); have HB_n := Aside0.mk (Below.trans HB.out (Mod.below hm2 (fun k hk => Nat.le_of_eq (hk.trans G_gb.out).symm) HB.out.size)); clear HI; have HI := HI_n; clear HI_n; clear HB; have HB := HB_n; clear HB_n; have hc0_n := (blk_cell HI.out.blk 0).trans (show #[Value.slice A xs.length c][0]? = some (Value.slice A xs.length c) from rfl); clear hc0; have hc0 := hc0_n; clear hc0_n; clear K_gb; have K_gb := Aside0.mk hw2; clear hw2 hm2))
  refine bodyPost_ret (results_ct rfl _ _ gb 32 (cl z).toArray (0, 0) _ rfl K_gb.out Try.underlying32 rfl (by kernel_rfl)) rfl ?_
  exact ⟨rfl, HB.out⟩
set_option maxHeartbeats 1000000 in
set_option maxRecDepth 100000 in
theorem copy_high (B g : Nat) (v : Value) (xs : List Fr) (k : Int) (w : World) (hI : Is w B g v xs) (hk : (xs.length : Int) ≤ k) :
    Calls Try.prog 21 #[.pointer (some ⟨g, 0, none⟩), .int .i64 k] w fun e w' => e = .returned (.tuple #[.agg (cl z).toArray, .bool false]) ∧ Below w.heap.size w w' := by
  have hu32 := Try.underlying32
  obtain ⟨A, c, rfl⟩ := own_slice hI.row
  have NG : Aside0 (g ≠ w.heap.size) := ⟨Nat.ne_of_lt (blk_lt hI.blk)⟩
  have NB : Aside0 ((Value.slice A xs.length c).ownBlock ≠ some w.heap.size) := ⟨fun h => by have := hI.lt _ h; omega⟩
  have HI := Aside0.mk hI
  have HB := Aside0.mk (Below.refl w.heap.size w)
  clear hI
  have hc0 := (blk_cell HI.out.blk 0).trans (show #[Value.slice A xs.length c][0]? = some (Value.slice A xs.length c) from rfl)
  have h1 : decide (k < 0) = false := decide_eq_false (by omega)
  have h2 : decide ((xs.length : Int) ≤ k) = true := decide_eq_true hk
  go_enter Try.func21, Try.ntmps21
  go_wp2_with (first | (refine gate_ (.alloc 32) rfl ?_; refine box_event ?hg (N := 4) ?hd (cs := (cl z).toArray) (t := 32) ?hr ?_; (case hd => rfl); (case hg => rfl); (case hr => first | (go_simp; done) | (go_simp; rfl)); intro gb hgb w_1 hbox hb; have K_gb := Aside0.mk hbox; have G_gb := Aside0.mk hgb; have HI_n := Aside0.mk (HI.out.below hb); have HB_n := Aside0.mk (below_step HB.out hb); clear HI; have HI := HI_n; clear HI_n; clear HB; have HB := HB_n; clear HB_n; have hc0_n := (blk_cell HI.out.blk 0).trans (show #[Value.slice A xs.length c][0]? = some (Value.slice A xs.length c) from rfl); clear hc0; have hc0 := hc0_n; clear hc0_n; clear hgb hbox hb) | (refine ev_store_row (.store 32 (.tmp 4) (.tmp 17)) rfl rfl rfl 32 (.tmp 4) (.tmp 17) rfl gb (cl z).toArray rfl rfl 32 (cl z).toArray K_gb.out (by kernel_rfl) rfl (cls_all z) ?_; intro w_2 hw2 hm2; have HI_n := Aside0.mk (HI.out.mod1 hm2 (fun e => NG.out (e.trans G_gb.out)) (fun e => NB.out (e.trans (congrArg some G_gb.out)))); have HB_n := Aside0.mk (Below.trans HB.out (Mod.below hm2 (fun k hk => Nat.le_of_eq (hk.trans G_gb.out).symm) HB.out.size)); clear HI; have HI := HI_n; clear HI_n; clear HB; have HB := HB_n; clear HB_n; have hc0_n := (blk_cell HI.out.blk 0).trans (show #[Value.slice A xs.length c][0]? = some (Value.slice A xs.length c) from rfl); clear hc0; have hc0 := hc0_n; clear hc0_n; clear K_gb; have K_gb := Aside0.mk hw2; clear hw2 hm2))
  refine bodyPost_ret (results_ct rfl _ _ gb 32 (cl z).toArray (0, 0) _ rfl K_gb.out Try.underlying32 rfl (by kernel_rfl)) rfl ?_
  exact ⟨rfl, HB.out⟩
theorem copy_out (B g : Nat) (v : Value) (xs : List Fr) (k : Int) (w : World) (hI : Is w B g v xs) (hk : k < 0 ∨ (xs.length : Int) ≤ k) :
    Calls Try.prog 21 #[.pointer (some ⟨g, 0, none⟩), .int .i64 k] w fun e w' => e = .returned (.tuple #[.agg (cl z).toArray, .bool false]) ∧ Below w.heap.size w w' :=
  hk.elim (copy_low B g v xs k w hI) (copy_high B g v xs k w hI)
set_option maxHeartbeats 1000000 in
set_option maxRecDepth 100000 in
theorem len_calls (B g : Nat) (v : Value) (xs : List Fr) (w : World) (hI : Is w B g v xs) :
    Calls Try.prog 25 #[.pointer (some ⟨g, 0, none⟩)] w fun e w' => e = .returned (.int .i64 (xs.length : Int)) ∧ Below w.heap.size w w' := by
  obtain ⟨A, c, rfl⟩ := own_slice hI.row
  have hc0 := (blk_cell hI.blk 0).trans (show #[Value.slice A xs.length c][0]? = some (Value.slice A xs.length c) from rfl)
  go_enter Try.func25, Try.ntmps25
  go_wp2
  go_ret
  exact ⟨rfl, Below.refl _ _⟩
set_option maxHeartbeats 1000000 in
set_option maxRecDepth 100000 in
theorem new_calls (w0 w : World) (HB : Below w0.heap.size w0 w) :
    Calls Try.prog 17 #[] w fun e w' => ∃ g, e = .returned (.pointer (some ⟨g, 0, none⟩)) ∧ Is w' w0.heap.size g (.slice none 0 0) [] ∧ Below w.heap.size w w' := by
  have HS := Aside0.mk HB.size
  clear HB
  have HB := Aside0.mk (Below.refl w.heap.size w)
  go_enter Try.func17, Try.ntmps17
  go_wp2_with (first | (refine gate_ (.box 55 (.tmp 1)) rfl ?_; refine box_event ?hg (N := 2) ?hd (cs := #[.slice none 0 0]) (t := 55) ?hr ?_; (case hd => rfl); (case hg => rfl); (case hr => first | (go_simp; done) | (go_simp; rfl)); intro gb hgb w_1 hbox hb; have K_gb := Aside0.mk hbox; have G_gb := Aside0.mk hgb; have HB1 := Aside0.mk hb; clear hgb hbox hb))
  go_ret
  exact ⟨gb, rfl, ⟨K_gb.out, by rw [G_gb.out]; exact HS.out, own_nil _ _ _ _⟩, HB1.out⟩
end Go.Proofs.Ytiifekdcikcgpaa.Net
