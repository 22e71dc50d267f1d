/- Contracts of package net: Drop, Deliver. -/
import Derived.Test.YtiifekdcikcgpaaNetC
import Derived.Outline
namespace Go.Proofs.Ytiifekdcikcgpaa.Net
open Go.RowKit Go.Proofs.YtiifekdcikcgpaaW.PrintWords Go.Proofs.YtiifekdcikcgpaaW.PrintLast Go.Proofs.Ytiifekdcikcgpaa.Lib
theorem cls_erase (xs : List Fr) (k : Nat) : cls (xs.eraseIdx k) = (cls xs).take (k * 9) ++ (cls xs).drop ((k + 1) * 9) := flat_erase cl 9 cl_length xs k
theorem Is.row_ne {W : World} {B g : Nat} {v : Value} {xs : List Fr} (h : Is W B g v xs) : v.ownBlock ≠ some g := fun e => own_ne h.row h.blk (by decide) e.symm
set_option maxHeartbeats 1000000 in
set_option maxRecDepth 100000 in
theorem drop_in (B g : Nat) (v : Value) (xs : List Fr) (k : Nat) (w : World) (hI : Is w B g v xs) (hk : k < xs.length) (hl : xs.length ≤ 4000) :
    Calls Try.prog 22 #[.pointer (some ⟨g, 0, none⟩), .int .i64 k] w fun e w' => e = .returned (.bool true) ∧ ∃ v', Is w' B g v' (xs.eraseIdx k) ∧ Mod (fun k => k = g ∨ some k = v.ownBlock) w w' ∧ v'.ownBlock = v.ownBlock := by
  have hu32 := Try.underlying32
  obtain ⟨b, c, rfl, hBb⟩ := hI.some_ (by omega)
  obtain ⟨x, hx⟩ : ∃ x, xs[k]? = some x := ⟨_, List.getElem?_eq_getElem hk⟩
  have HX := Aside0.mk hx
  have NG : Aside0 (g < w.heap.size) := ⟨blk_lt hI.blk⟩
  have NB : Aside0 (∀ q, (Value.slice (some ⟨b, 0, none⟩) xs.length c).ownBlock = some q → q < w.heap.size) := ⟨hI.lt⟩
  have NE : Aside0 (b ≠ g) := ⟨fun e => hI.row_ne (by rw [e]; rfl)⟩
  have HK := Aside0.mk hk
  have HI := Aside0.mk hI
  have HB := Aside0.mk (Below.refl w.heap.size w)
  have e1 : IntKind.i64.wrap ((k : Int) + 1) = (k : Int) + 1 := by rw [IntKind.wrap_i64]; omega
  clear hI hx hk
  go_enter Try.func22, Try.ntmps22
  go_wp2_with (first | (go_at_call 21; (with_reducible refine (copy_in B g _ xs k x _ HI.out HX.out hl).mono ?_); rintro e_1 w_1 ⟨rfl, hb⟩; have HI_n := Aside0.mk (HI.out.below hb); have HB_n := Aside0.mk (below_step HB.out hb); clear HI HB; have HI := HI_n; have HB := HB_n; clear HI_n HB_n hb) | (refine gate_ (.alloc 32) rfl ?_; refine box_event ?hg (N := 5) ?hd (cs := (cl z).toArray) (t := 32) ?hr ?_; (case hd => rfl); (case hg => rfl); (case hr => first | (go_simp; done) | (go_simp; rfl)); intro gb hgb w_1 hbox hb; have K_gb := Aside0.mk hbox; have G_gb := Aside0.mk (show w.heap.size ≤ gb from by rw [hgb]; exact HB.out.size); have HI_n := Aside0.mk (HI.out.below hb); have HB_n := Aside0.mk (below_step HB.out hb); clear HI HB; have HI := HI_n; have HB := HB_n; clear HI_n HB_n hgb hbox hb) | (refine ev_store_row (.store 32 (.tmp 5) (.tmp 11)) rfl rfl rfl 32 (.tmp 5) (.tmp 11) rfl gb (cl x).toArray rfl rfl 32 (cl z).toArray K_gb.out (by kernel_rfl) rfl (cls_all x) ?_; intro w_2 hw2 hm2; have HI_n := Aside0.mk (HI.out.mod1 hm2 (fun e => by have := NG.out; have := G_gb.out; omega) (fun e => by have := NB.out _ e; have := G_gb.out; omega)); have HB_n := Aside0.mk (Below.trans HB.out (Mod.below hm2 (fun k hk => by rw [hk]; exact G_gb.out) HB.out.size)); clear HI HB K_gb; have HI := HI_n; have HB := HB_n; have hc0 := (blk_cell HI.out.blk 0).trans (show #[Value.slice (some ⟨b, 0, none⟩) xs.length c][0]? = some (Value.slice (some ⟨b, 0, none⟩) xs.length c) from rfl); clear HI_n HB_n hw2 hm2) | (go_at_call 29; (with_reducible refine (delete_at B b xs.length c k (cls xs) _ HI.out.row (cls_one xs) HK.out hl).mono ?_); rintro e_1 w_1 ⟨rfl, hrow, hm⟩; have HD := Aside0.mk hrow; have hbk := hm.blk HI.out.blk (fun e => NE.out e.symm); have HBK := Aside0.mk hbk; have HM := Aside0.mk (Mod.trans (S := fun k => k = g ∨ some k = (Value.slice (some ⟨b, 0, none⟩) xs.length c).ownBlock) (Mod.of_below HB.out _) hm (fun q hq => .inl (.inr (by rw [hq]; rfl)))); have hcz := (blk_cell hbk 0).trans (show #[Value.slice (some ⟨b, 0, none⟩) xs.length c][0]? = some (Value.slice (some ⟨b, 0, none⟩) xs.length c) from rfl); have hfz := blk_frozen hbk 0; clear hc0 hrow hm hbk))
  go_ret
  exact ⟨rfl, _, Is.put HD.out HBK.out HI.out.ge (by rw [List.length_eraseIdx_of_lt HK.out]) (cls_erase xs k), HM.out.setCell (.inl (.inl rfl)) _, rfl⟩
end Go.Proofs.Ytiifekdcikcgpaa.Net
