/- NetOrder answers true: dropping and delivering leave the others in their order; copies leave all. -/
import Derived.Test.YtiifekdcikcgpaaNetV
import Derived.Deep.QuietTactic
import Derived.BigQuiet
namespace Go.Proofs.Ytiifekdcikcgpaa.Net
open Go.RowKit Go.Proofs.YtiifekdcikcgpaaW.PrintWords Go.Proofs.YtiifekdcikcgpaaW.PrintLast Go.Proofs.Ytiifekdcikcgpaa.Lib Go.Proofs.Ytiifekdcikcgpaa.Open
/-- The net and the list of what is wanted hold the same frames. -/
structure Ord (w0 wr : World) (B g : Nat) (v u : Value) (xs ys : List Fr) : Prop where
  a : Is wr B g v xs
  row : wr.ownsRow B 32 9 u ys.length (cls ys)
  ne : ∀ q, v.ownBlock = some q → u.ownBlock ≠ some q
  below : Below B w0 wr
theorem Ord.size {w0 W : World} {B g : Nat} {v u : Value} {xs ys : List Fr} (p : Ord w0 W B g v u xs ys) : B ≤ W.heap.size := Nat.le_of_lt (Nat.lt_of_le_of_lt p.a.ge (blk_lt p.a.blk))
theorem Ord.far {w0 W W1 : World} {B g : Nat} {v u : Value} {xs ys : List Fr} (p : Ord w0 W B g v u xs ys) (hb : Below W.heap.size W W1) : Ord w0 W1 B g v u xs ys :=
  ⟨p.a.below hb, pw_own_below p.row hb, p.ne, p.below.trans (hb.mono p.size)⟩
theorem Ord.gu {w0 W : World} {B g : Nat} {v u : Value} {xs ys : List Fr} (p : Ord w0 W B g v u xs ys) : u.ownBlock ≠ some g := fun e => own_ne p.row p.a.blk (by decide) e.symm
theorem Ord.side {w0 W W1 : World} {B g gb : Nat} {v u : Value} {xs ys : List Fr} (p : Ord w0 W B g v u xs ys) (hm : Mod (fun k => k = gb) W W1) (f : g ≠ gb ∧ v.ownBlock ≠ some gb ∧ u.ownBlock ≠ some gb ∧ B ≤ gb) : Ord w0 W1 B g v u xs ys :=
  ⟨p.a.mod1 hm f.1 f.2.1, hm.own p.row (fun q hq e => f.2.2.1 (by rw [hq, e])), p.ne, hm.after p.below p.size (fun k hk => by rw [hk]; exact f.2.2.2)⟩
theorem Ord.new {w0 W : World} {B g : Nat} {v u : Value} {xs ys : List Fr} (p : Ord w0 W B g v u xs ys) {gb : Nat} (e : gb = W.heap.size) : g ≠ gb ∧ v.ownBlock ≠ some gb ∧ u.ownBlock ≠ some gb ∧ B ≤ gb := by
  subst e
  exact ⟨Nat.ne_of_lt (blk_lt p.a.blk), fun e => Nat.lt_irrefl _ (p.a.lt _ e), fun e => Nat.lt_irrefl _ (own_lt p.row _ e), p.size⟩
theorem Ord.stepN {w0 W W1 : World} {B g : Nat} {v u v1 : Value} {xs ys xs1 : List Fr} (p : Ord w0 W B g v u xs ys) (hi : Is W1 B g v1 xs1) (hm : Mod (fun k => k = g ∨ some k = v.ownBlock) W W1) (hat : v1.ownBlock = v.ownBlock ∨ ∃ b, v1.ownBlock = some b ∧ W.heap.size ≤ b) : Ord w0 W1 B g v1 u xs1 ys :=
  ⟨hi, hm.own p.row (fun k hk e => e.elim (fun e => p.gu (by rw [hk, e])) (fun e => p.ne k e.symm hk)), fun q hq => by
    rcases hat with e | ⟨b, e, hb⟩
    · exact p.ne q (e.symm.trans hq)
    · intro hu
      have := own_lt p.row q hu
      have := Option.some.inj (e.symm.trans hq)
      omega, p.a.after p.below hm⟩
/-- The list has been made anew, or has grown. -/
theorem Ord.stepU {w0 W W1 : World} {B g : Nat} {v u u1 : Value} {xs ys ys1 : List Fr} (p : Ord w0 W B g v u xs ys) (hr : W1.ownsRow B 32 9 u1 ys1.length (cls ys1)) (hm : Mod (fun k => some k = u.ownBlock) W W1) (hat : u1.ownBlock = u.ownBlock ∨ ∀ b, u1.ownBlock = some b → W.heap.size ≤ b) : Ord w0 W1 B g v u1 xs ys1 :=
  ⟨p.a.mod hm (fun e => p.gu e.symm) (fun k hk e => p.ne k hk e.symm), hr, fun q hq => by
    rcases hat with e | e
    · rw [e]; exact p.ne q hq
    · intro hu
      have h1 := e q hu
      have h2 := p.a.lt q hq
      omega, hm.after p.below p.size (fun k hk => own_base p.row k hk.symm)⟩
/-- A new row in place of the list. -/
theorem Ord.anew {w0 W W1 : World} {B g : Nat} {v u u1 : Value} {xs ys ys1 : List Fr} (p : Ord w0 W B g v u xs ys) (hr : W1.ownsRow B 32 9 u1 ys1.length (cls ys1)) (hb : Below W.heap.size W W1) (hat : ∀ b, u1.ownBlock = some b → W.heap.size ≤ b) : Ord w0 W1 B g v u1 xs ys1 :=
  p.stepU hr (Mod.of_below hb _) (.inr hat)
theorem nine {W : World} {b o : Nat} {x : Fr} (h : W.rangeAt b o (cl x)) : W.cell? ⟨b, o, none⟩ = some (.int .i64 x.f0) ∧ W.cell? ⟨b, o + 1, none⟩ = some (.int .i64 x.f1) ∧ W.cell? ⟨b, o + 2, none⟩ = some (.int .i64 x.f2) ∧ W.cell? ⟨b, o + 3, none⟩ = some (.int .i64 x.f3) ∧ W.cell? ⟨b, o + 4, none⟩ = some (.int .i64 x.f4) ∧ W.cell? ⟨b, o + 5, none⟩ = some (.int .i64 x.f5) ∧ W.cell? ⟨b, o + 6, none⟩ = some (.string x.f6) ∧ W.cell? ⟨b, o + 7, none⟩ = some (.int .i64 x.f7) ∧ W.cell? ⟨b, o + 8, none⟩ = some (.string x.f8) :=
  ⟨h 0 _ rfl, h 1 _ rfl, h 2 _ rfl, h 3 _ rfl, h 4 _ rfl, h 5 _ rfl, h 6 _ rfl, h 7 _ rfl, h 8 _ rfl⟩
theorem nine0 {W : World} {b : Nat} {x : Fr} (h : W.heap[b]? = some (.cells (cl x).toArray 32 (0, 0))) : W.cell? ⟨b, 0, none⟩ = some (.int .i64 x.f0) ∧ W.cell? ⟨b, 1, none⟩ = some (.int .i64 x.f1) ∧ W.cell? ⟨b, 2, none⟩ = some (.int .i64 x.f2) ∧ W.cell? ⟨b, 3, none⟩ = some (.int .i64 x.f3) ∧ W.cell? ⟨b, 4, none⟩ = some (.int .i64 x.f4) ∧ W.cell? ⟨b, 5, none⟩ = some (.int .i64 x.f5) ∧ W.cell? ⟨b, 6, none⟩ = some (.string x.f6) ∧ W.cell? ⟨b, 7, none⟩ = some (.int .i64 x.f7) ∧ W.cell? ⟨b, 8, none⟩ = some (.string x.f8) :=
  ⟨(blk_cell h 0).trans rfl, (blk_cell h 1).trans rfl, (blk_cell h 2).trans rfl, (blk_cell h 3).trans rfl, (blk_cell h 4).trans rfl, (blk_cell h 5).trans rfl, (blk_cell h 6).trans rfl, (blk_cell h 7).trans rfl, (blk_cell h 8).trans rfl⟩
theorem row_range {W : World} {B b n c : Nat} {xs : List Fr} (h : W.ownsRow B 32 9 (.slice (some ⟨b, 0, none⟩) n c) n (cls xs)) (k : Nat) (x : Fr) (hx : xs[k]? = some x) : W.rangeAt b (k * 9) (cl x) := by
  have hk := (List.getElem?_eq_some_iff.1 hx).1
  have hl := h.1
  rw [cls_length] at hl
  refine range_of_own h _ _ (fun j u hu => flat_at cl 9 cl_length xs k x hx j u hu) ?_
  rw [cl_length]; omega
/-- The first loop: i frames are to be sent still. -/
def OrdSent (w0 : World) (B g m : Nat) (k : Nat) (s8 s9 : Value) (wr : World) : Prop :=
  ∃ (v : Value) (A : Option Addr) (c : Nat) (xs : List Fr), s8 = .slice A xs.length c ∧ s9 = .int .i64 (k : Int) ∧ xs.length + k = m ∧ Ord w0 wr B g v s8 xs xs
/-- The second loop: i rounds are over. -/
def OrdAt (w0 : World) (B g n : Nat) (k : Nat) (s8 s10 : Value) (wr : World) : Prop :=
  ∃ (i : Nat) (v : Value) (A : Option Addr) (c : Nat) (xs : List Fr), s8 = .slice A xs.length c ∧ s10 = .int .i64 (i : Int) ∧ i + k = n ∧ xs.length ≤ 40 ∧ Ord w0 wr B g v s8 xs xs
attribute [local go_sem high] PNetOrder.eqA32
set_option maxHeartbeats 8000000 in
set_option maxRecDepth 100000 in
theorem order_calls (a0 : Int) (A1 : Option Addr) (n1 c1 : Nat) (l1 : List Int) (A2 : Option Addr) (n2 c2 : Nat) (l2 : List Int) (w : World) (hA1 : Arg icl w A1 n1 l1) (hA2 : Arg icl w A2 n2 l2) :
    Calls Try.prog 10 #[.int .i64 a0, .slice A1 n1 c1, .slice A2 n2 c2] w fun e w' => e = .returned (.bool true) ∧ Below w.heap.size w w' := by
  have HB := Aside0.mk (Below.refl w.heap.size w)
  have HA1 := Aside0.mk hA1
  have HA2 := Aside0.mk hA2
  have hn1 : n1 ≤ 9223372036854775807 := hA1.2.1
  have hn2 : n2 ≤ 9223372036854775807 := hA2.2.1
  clear hA1 hA2
  go_enter Try.func10, Try.ntmps10
  go_wp2_with (first | (go_at_call 17; (with_reducible refine (new_calls w _ HB.out).mono ?_); rintro e_1 w_1 ⟨g, rfl, hi, hb⟩; have HI := Aside0.mk hi; have HB_n := Aside0.mk (below_step HB.out hb); clear HB; have HB := HB_n; clear HB_n; clear hi hb) | (go_at_call 16; (with_reducible refine (within_calls a0 0 40 _ (by decide) (by decide) (by decide)).mono ?_); rintro e_1 w_1 ⟨m0, rfl, hm0, hm1, hb⟩; obtain ⟨m, rfl⟩ := Int.eq_ofNat_of_zero_le hm0; have HS := Aside0.mk (show OrdSent w w.heap.size g m m (.slice none 0 0) (.int .i64 (m : Int)) w_1 from ⟨_, none, 0, [], rfl, rfl, by simp, HI.out.below hb, own_nil _ _ _ _, fun q hq => by simp [Value.ownBlock] at hq, below_step HB.out hb⟩); clear HB HI hb hm0))
  have hm2 : m ≤ 40 := by omega
  clear hm1
  go_loopg [8, 9] m (fun k s8 s9 wr => OrdSent w w.heap.size g m k s8 s9 wr)
  case atStart => exact HS.out
  case round =>
    obtain ⟨v, Au, cu, xs, rfl, rfl, hxk, ho⟩ := hrel
    have HO := Aside0.mk ho
    clear ho HS
    by_cases hk : 0 < gk
    · have HL := Aside0.mk (show xs.length < 4000 from by omega)
      have s1 := Aside0.mk (show xs.length + 1 ≤ maxLen from by unfold maxLen; omega)
      have s2 := Aside0.mk (show (xs.length + 1) * 88 ≤ 140737488355328 from by omega)
      have hd : decide ((0 : Int) < (gk : Int)) = true := decide_eq_true (by omega)
      go_wp2_with (first | (go_at_call 19; (with_reducible refine (of_calls _ _).mono ?_); rintro e_1 w_1 ⟨rfl, hb⟩; have HO_n := Aside0.mk (HO.out.far hb); clear HO; have HO := HO_n; clear HO_n; clear hb) | (go_at_call 18; (with_reducible refine (send_room w.heap.size g v xs (fr gk) w _ HO.out.a HO.out.below HL.out).mono ?_); rintro e_1 w_1 ⟨rfl, v1, hi, hm, hat⟩; have HO_n := Aside0.mk (HO.out.stepN hi hm hat); clear HO; have HO := HO_n; clear HO_n hi hm hat) | (refine ev_lit (.buildSlice 38 1 #[(0, .tmp 31)]) rfl rfl 1 (cl (fr gk)).toArray 32 ?hr ?_; (case hr => (simp only [cl]; first | (go_simp; done) | (go_simp; rfl))); intro g1 hg1 w_1 hk1 hb; have HK := Aside0.mk hk1; have HO_n := Aside0.mk (HO.out.far hb); clear HO; have HO := HO_n; clear HO_n; clear hg1 hk1 hb) | (refine ev_append (.tmp 29) (.tmp 32) 38 32 rfl rfl w.heap.size _ 9 88 Try.underlying38 Try.info32 rfl (by decide) _ xs.length (cls xs) rfl HO.out.row ⟨g1, 0, none⟩ 1 1 (cl (fr gk)) rfl rfl (fun j u hu => by rw [add_plain]; exact (blk_cell HK.out j).trans (by simpa using hu)) (cl_one _) s1.out s2.out HO.out.size ?_; intro u2 w_2 ho2 hm2 _ hat2; have HO_n := Aside0.mk (HO.out.stepU (ys1 := xs ++ [fr gk]) (show w_2.ownsRow w.heap.size 32 9 u2 (xs ++ [fr gk]).length (cls (xs ++ [fr gk])) from by rw [List.length_append, List.length_singleton, cls_append]; simpa [cls] using ho2) hm2 (hat2.imp id (fun e q hq => Nat.le_of_eq (Option.some.inj (e.symm.trans hq))))); obtain ⟨Au2, cu2, rfl⟩ := own_slice ho2; clear HO; have HO := HO_n; clear HO_n ho2 hm2 hat2))
      go_roundg (gk - 1)
      case measure => omega
      case rel => exact ⟨v1, Au2, cu2, xs ++ [fr gk], by rw [List.length_append, List.length_singleton], by rw [show ((gk - 1 : Nat) : Int) = (gk : Int) - 1 by omega], by rw [List.length_append, List.length_singleton]; omega, HO.out⟩
    · obtain rfl : gk = 0 := by omega
      have hx40 : xs.length ≤ 40 := by omega
      go_wp2_with fail
      have HS := Aside0.mk (show OrdAt w w.heap.size g n1 n1 (.slice Au xs.length cu) (.int .i64 0) wr from ⟨0, v, Au, cu, xs, rfl, rfl, by omega, hx40, HO.out⟩)
      clear HO
      go_loopg [8, 10] n1 (fun k s8 s10 wr => OrdAt w w.heap.size g n1 k s8 s10 wr)
      case atStart => exact HS.out
      case round =>
        clear hx40 hxk HS
        obtain ⟨i, v, Au, cu, xs, rfl, rfl, hik, hx40, ho⟩ := hrel
        have HO := Aside0.mk ho
        clear ho
        by_cases hgo : i < n1 ∧ i < n2 ∧ i < 60 ∧ 0 < xs.length
        · obtain ⟨g1, g2, g3, g4⟩ := hgo
          obtain ⟨x, hx⟩ : ∃ x, l1[i]? = some x := ⟨_, List.getElem?_eq_getElem (by have := HA1.out.1; omega)⟩
          obtain ⟨y, hy⟩ : ∃ y, l2[i]? = some y := ⟨_, List.getElem?_eq_getElem (by have := HA2.out.1; omega)⟩
          obtain ⟨b1, o1, rfl, hr1⟩ := (HA1.out.below HO.out.below).at_ icl_length i x hx
          obtain ⟨b2, o2, rfl, hr2⟩ := (HA2.out.below HO.out.below).at_ icl_length i y hy
          have hc1 : wr.cell? ⟨b1, o1 + i, none⟩ = some (.int .i64 x) := by have := hr1 0 _ rfl; rwa [Nat.mul_one, Nat.add_zero] at this
          have hc2 : wr.cell? ⟨b2, o2 + i, none⟩ = some (.int .i64 y) := by have := hr2 0 _ rfl; rwa [Nat.mul_one, Nat.add_zero] at this
          have HC2 := Aside0.mk hc2
          have t1 : decide ((i : Int) < (n1 : Int)) = true := decide_eq_true (by omega)
          have t2 : decide ((i : Int) < (n2 : Int)) = true := decide_eq_true (by omega)
          have t3 : decide ((i : Int) < 60) = true := decide_eq_true (by omega)
          have t4 : decide ((0 : Int) < ((xs.length : Nat) : Int)) = true := decide_eq_true (by omega)
          have W1 := Aside0.mk (show (0 : Int) ≤ (xs.length : Int) - 1 from by omega)
          have W2 := Aside0.mk (show (xs.length : Int) - 1 ≤ 1000000 from by omega)
          clear hr1 hr2 hx hy
          go_upto_region 15 with (first | (go_at_call 16; (with_reducible refine (within_calls x 0 ((xs.length : Int) - 1) _ W1.out (by decide) W2.out).mono ?_); rintro e_1 w_1 ⟨p0, rfl, hp0, hp1, hb⟩; have HP := Aside0.mk (And.intro hp0 hp1); have HC2_n := Aside0.mk (pw_cell_below hb HC2.out); clear HC2 hc1 hc2; have HC2 := HC2_n; have hc2 := HC2.out; have HO_n := Aside0.mk (HO.out.far hb); clear HO; have HO := HO_n; clear HO_n; clear HC2_n hb hp0 hp1) | (go_at_call 16; (with_reducible refine (within_calls y 0 2 _ (by decide) (by decide) (by decide)).mono ?_); rintro e_1 w_1 ⟨q, rfl, hq0, hq1, hb⟩; have HQ := Aside0.mk (And.intro hq0 hq1); clear HC2 hc2; have HO_n := Aside0.mk (HO.out.far hb); clear HO; have HO := HO_n; clear HO_n; clear hb hq0 hq1))
          obtain ⟨hp0, hp1⟩ := HP.out
          obtain ⟨p, rfl⟩ := Int.eq_ofNat_of_zero_le hp0
          have hpl : p < xs.length := by omega
          obtain ⟨f, hf⟩ : ∃ f, xs[p]? = some f := ⟨_, List.getElem?_eq_getElem hpl⟩
          obtain ⟨bu, cu', he, hBu, _⟩ := HO.out.row.form g4
          injection he with he1 _ he3
          subst he1 he3
          have hcap : xs.length ≤ cu := own_cap HO.out.row
          have HX := Aside0.mk (show xs[((p : Nat) : Int).toNat]? = some f from by rw [Int.toNat_natCast]; exact hf)
          have HF := Aside0.mk hf
          have HLE := Aside0.mk (show xs.length ≤ 4000 from by omega)
          obtain ⟨hq0, hq1⟩ := HQ.out
          have hq : q = 0 ∨ q = 1 ∨ q = 2 := by omega
          clear hq0 hq1 HQ HP hp0 hp1 W1 W2 hf
          have y1 : (p : Int) < (xs.length : Int) := by omega
          have y2 : (0 : Int) ≤ (p : Int) := by omega
          rcases hq with rfl | rfl | rfl
          · go_upto_region 17 with (first | (go_at_call 20; (with_reducible refine (deliverZ w.heap.size g v xs p f _ HO.out.a y2 HX.out HLE.out).mono ?_); rintro e_1 w_1 ⟨rfl, v1, hi, hm, hv⟩; have HO_n := Aside0.mk (HO.out.stepN hi hm (.inl hv)); clear HO; have HO := HO_n; clear HO_n hi hm hv) | (refine gate_ (.alloc 32) rfl ?_; refine box_event ?hg (N := 12) ?hd (cs := (cl z).toArray) (t := 32) ?hr ?_; (case hd => rfl); (case hg => rfl); (case hr => first | (go_simp; done) | (go_simp; rfl)); intro g12 hgb w_1 hbox hb; have K_12 := Aside0.mk hbox; have F_12 := Aside0.mk (HO.out.new hgb); have HO_n := Aside0.mk (HO.out.far hb); clear HO; have HO := HO_n; clear HO_n; clear hgb hbox hb) | (refine ev_store_row (.store 32 (.tmp 12) (.tmp 74)) rfl rfl rfl 32 (.tmp 12) (.tmp 74) rfl g12 (cl f).toArray rfl rfl 32 (cl z).toArray K_12.out (by kernel_rfl) rfl (cls_all _) ?_; intro w_2 hw2 hm2; have HO_n := Aside0.mk (HO.out.side hm2 F_12.out); clear HO K_12; have HO := HO_n; have K_12 := Aside0.mk hw2; clear HO_n hw2 hm2))
            obtain ⟨d0, d1, d2, d3, d4, d5, d6, d7, d8⟩ := nine0 K_12.out
            obtain ⟨e0, e1, e2, e3, e4, e5, e6, e7, e8⟩ := nine (row_range HO.out.row p f HF.out)
            go_region_held3 (fun W' => W'.cell? ⟨g12, 0, none⟩ = some (.int .i64 f.f0) ∧ W'.cell? ⟨g12, 1, none⟩ = some (.int .i64 f.f1) ∧ W'.cell? ⟨g12, 2, none⟩ = some (.int .i64 f.f2) ∧ W'.cell? ⟨g12, 3, none⟩ = some (.int .i64 f.f3) ∧ W'.cell? ⟨g12, 4, none⟩ = some (.int .i64 f.f4) ∧ W'.cell? ⟨g12, 5, none⟩ = some (.int .i64 f.f5) ∧ W'.cell? ⟨g12, 6, none⟩ = some (.string f.f6) ∧ W'.cell? ⟨g12, 7, none⟩ = some (.int .i64 f.f7) ∧ W'.cell? ⟨g12, 8, none⟩ = some (.string f.f8) ∧ W'.cell? ⟨bu, p * 9, none⟩ = some (.int .i64 f.f0) ∧ W'.cell? ⟨bu, p * 9 + 1, none⟩ = some (.int .i64 f.f1) ∧ W'.cell? ⟨bu, p * 9 + 2, none⟩ = some (.int .i64 f.f2) ∧ W'.cell? ⟨bu, p * 9 + 3, none⟩ = some (.int .i64 f.f3) ∧ W'.cell? ⟨bu, p * 9 + 4, none⟩ = some (.int .i64 f.f4) ∧ W'.cell? ⟨bu, p * 9 + 5, none⟩ = some (.int .i64 f.f5) ∧ W'.cell? ⟨bu, p * 9 + 6, none⟩ = some (.string f.f6) ∧ W'.cell? ⟨bu, p * 9 + 7, none⟩ = some (.int .i64 f.f7) ∧ W'.cell? ⟨bu, p * 9 + 8, none⟩ = some (.string f.f8)) (exact ⟨d0, d1, d2, d3, d4, d5, d6, d7, d8, e0, e1, e2, e3, e4, e5, e6, e7, e8⟩) (fail)
            clear d0 d1 d2 d3 d4 d5 d6 d7 d8 e0 e1 e2 e3 e4 e5 e6 e7 e8 K_12 F_12
            go_wp2_with fail
            have HO_n := Aside0.mk (HO.out.far (below_drew (Below.refl _ _)))
            clear HO
            have HO := HO_n
            clear HO_n
            obtain ⟨W, hW⟩ : ∃ W, W = w_2.drew := ⟨_, rfl⟩
            rw [← hW] at HO ⊢
            clear hW
            have hcl := HO.out.row.1
            have hone := cls_one xs
            have SB := HO.out.size
            have E0 : Aside0 ((W.alloc (.cells #[] 32)).drew.heap[W.heap.size]? = some (.cells #[] 32 (0, 0))) := ⟨blk_new W _⟩
            have E1 : Aside0 ((W.alloc (.cells #[] 32)).drew.ownsRow w.heap.size 32 9 (.slice (some ⟨W.heap.size, 0, none⟩) 0 0) 0 []) := ⟨own_empty SB E0.out⟩
            have BA : Aside0 (Below W.heap.size W (W.alloc (.cells #[] 32)).drew) := ⟨(below_alloc (Below.refl _ _) _).drew⟩
            have E2 : Aside0 ((W.alloc (.cells #[] 32)).drew.ownsRow w.heap.size 32 9 (Value.slice (some ⟨bu, 0, none⟩) xs.length cu) xs.length (cls xs)) := ⟨pw_own_below HO.out.row BA.out⟩
            have E3 : Aside0 (∀ j u, ((cls xs).take (p * 9))[j]? = some u → (W.alloc (.cells #[] 32)).drew.cell? ((⟨bu, 0, none⟩ : Addr).add j) = some u) := ⟨fun j u hu => news_of_own E2.out j u (take_some hu)⟩
            have n1' : Aside0 (((cls xs).take (p * 9)).length = p * 9) := ⟨by rw [List.length_take, hcl]; omega⟩
            have n2' : Aside0 (((cls xs).drop ((p + 1) * 9)).length = (xs.length - (p + 1)) * 9) := ⟨by rw [List.length_drop, hcl]; omega⟩
            have m1 : Aside0 (∀ u ∈ (cls xs).take (p * 9), u.oneCell' = true) := ⟨fun u hu => hone u (List.mem_of_mem_take hu)⟩
            have m2 : Aside0 (∀ u ∈ (cls xs).drop ((p + 1) * 9), u.oneCell' = true) := ⟨fun u hu => hone u (List.mem_of_mem_drop hu)⟩
            have b1' : Aside0 (0 + p ≤ maxLen) := ⟨by unfold maxLen; omega⟩
            have b2' : Aside0 ((0 + p) * 88 ≤ 140737488355328) := ⟨by omega⟩
            have b3' : Aside0 (p + (xs.length - (p + 1)) ≤ maxLen) := ⟨by unfold maxLen; omega⟩
            have b4' : Aside0 ((p + (xs.length - (p + 1))) * 88 ≤ 140737488355328) := ⟨by omega⟩
            have b5' : Aside0 (w.heap.size ≤ (W.alloc (.cells #[] 32)).drew.heap.size) := ⟨Nat.le_trans SB BA.out.size⟩
            have bW := own_lt HO.out.row bu rfl
            have q2 : Aside0 (bu ≠ W.heap.size) := ⟨by omega⟩
            have x1 : IntKind.i64.wrap ((p : Int) + 1) = (p : Int) + 1 := by rw [IntKind.wrap_i64]; omega
            have x3 : ((p : Int) + 1).toNat = p + 1 := by omega
            have x4 : (0 : Int) ≤ (p : Int) + 1 := by omega
            have x5 : p ≤ cu := by omega
            have x8 : (p : Int) + 1 ≤ (xs.length : Int) := by omega
            have x6 : p + 1 ≤ cu := by omega
            have x7 : p + 1 ≤ xs.length := by omega
            obtain ⟨AD, hA, hsrc⟩ : ∃ AD : Addr, (if cu = p + 1 then some (⟨bu, 0, none⟩ : Addr) else some ⟨bu, (p + 1) * 9, none⟩) = some AD ∧ Aside0 (∀ W1 : World, W1.ownsRow w.heap.size 32 9 (Value.slice (some ⟨bu, 0, none⟩) xs.length cu) xs.length (cls xs) → ∀ j u, ((cls xs).drop ((p + 1) * 9))[j]? = some u → W1.cell? (AD.add j) = some u) := by
              by_cases h : cu = p + 1
              · refine ⟨⟨bu, 0, none⟩, by simp [h], ⟨fun W1 _ t u hu => ?_⟩⟩
                have h0 : ((cls xs).drop ((p + 1) * 9)).length = 0 := by rw [n2'.out]; omega
                rw [List.length_eq_zero_iff.1 h0] at hu
                simp at hu
              · refine ⟨⟨bu, (p + 1) * 9, none⟩, by simp [h], ⟨fun W1 hW1 t u hu => ?_⟩⟩
                have ht := (List.getElem?_eq_some_iff.1 hu).1
                rw [n2'.out] at ht
                rw [Addr.add_mid, hW1.cellAt _ (by omega)]
                rw [List.getElem?_drop] at hu
                exact hu
            clear SB hcl hone bW
            go_region_law (first | (refine st_append (W := (W.alloc (.cells #[] 32)).drew) (.tmp 110) (.tmp 113) 38 32 rfl rfl w.heap.size _ 9 88 Try.underlying38 Try.info32 rfl (by decide) (.slice (some ⟨W.heap.size, 0, none⟩) 0 0) 0 [] rfl E1.out ⟨bu, 0, none⟩ p cu ((cls xs).take (p * 9)) rfl n1'.out E3.out m1.out b1'.out b2'.out b5'.out ?_; intro u1 w1 ho1 hm1 _ hat1; rw [Nat.zero_add] at ho1; have G1 := Aside0.mk ho1; have G2 := Aside0.mk hm1; have G3 := Aside0.mk (show ∀ b, u1.ownBlock = some b → W.heap.size ≤ b from fun b e => hat1.elim (fun h => Nat.le_of_eq (Option.some.inj (h.symm.trans e))) (fun h => by have := Option.some.inj (h.symm.trans e); have := BA.out.size; omega)); have G4 := Aside0.mk (hm1.own E2.out (fun q hq e => q2.out ((Option.some.inj hq).trans (Option.some.inj e)))); have G5 := Aside0.mk (show w.heap.size ≤ w1.heap.size from Nat.le_trans b5'.out hm1.size); clear ho1 hm1 hat1) | (refine st_append (W := w1) (.tmp 114) (.tmp 118) 38 32 rfl rfl w.heap.size _ 9 88 Try.underlying38 Try.info32 rfl (by decide) u1 p _ rfl G1.out AD (xs.length - (p + 1)) (cu - (p + 1)) ((cls xs).drop ((p + 1) * 9)) rfl n2'.out (hsrc.out w1 G4.out) m2.out b3'.out b4'.out G5.out ?_; intro u2 w2 ho2 hm2 _ hat2; have J1 := Aside0.mk ho2; have J2 := Aside0.mk hm2; have J3 := Aside0.mk hat2; obtain ⟨Au2, cu2, rfl⟩ := own_slice ho2; clear ho2 hm2 hat2))
            all_goals
              have L := List.length_eraseIdx_of_lt hpl
              have BW := (BA.out.trans (G2.out.below (B := W.heap.size) (fun k hk => Nat.le_of_eq (Option.some.inj hk).symm) BA.out.size)).trans (J2.out.below (B := W.heap.size) (fun k hk => G3.out k hk.symm) (Nat.le_trans BA.out.size G2.out.size))
              have HO9 := Aside0.mk (HO.out.anew (ys1 := xs.eraseIdx p) (show w2.ownsRow w.heap.size 32 9 (.slice Au2 (p + (xs.length - (p + 1))) cu2) _ _ from by rw [L, show xs.length - 1 = p + (xs.length - (p + 1)) by omega, cls_erase xs p, ← List.nil_append (List.take (p * 9) (cls xs))]; exact J1.out) BW (fun b e => J3.out.elim (fun h => G3.out b (h.symm.trans e)) (fun h => by have := Option.some.inj (h.symm.trans e); have := BA.out.size; have := G2.out.size; omega)))
              have L9 := Aside0.mk L
              clear HO L BW
              go_wp2_with fail
              go_roundg (n1 - (i + 1))
              case measure => omega
              case rel => exact ⟨i + 1, v1, Au2, cu2, xs.eraseIdx p, by rw [L9.out, show xs.length - 1 = p + (xs.length - (p + 1)) by omega], by go_num, by omega, by rw [L9.out]; omega, HO9.out⟩
          · go_upto_region 26 with (go_at_call 22; (with_reducible refine (dropZ w.heap.size g v xs p _ HO.out.a y2 y1 HLE.out).mono ?_); rintro e_1 w_1 ⟨rfl, v1, hi, hm, hv⟩; have HO_n := Aside0.mk (HO.out.stepN hi hm (.inl hv)); clear HO; have HO := HO_n; clear HO_n hi hm hv)
            obtain ⟨W, hW⟩ : ∃ W, W = w_1 := ⟨_, rfl⟩
            rw [← hW] at HO ⊢
            clear hW
            have hcl := HO.out.row.1
            have hone := cls_one xs
            have SB := HO.out.size
            have E0 : Aside0 ((W.alloc (.cells #[] 32)).drew.heap[W.heap.size]? = some (.cells #[] 32 (0, 0))) := ⟨blk_new W _⟩
            have E1 : Aside0 ((W.alloc (.cells #[] 32)).drew.ownsRow w.heap.size 32 9 (.slice (some ⟨W.heap.size, 0, none⟩) 0 0) 0 []) := ⟨own_empty SB E0.out⟩
            have BA : Aside0 (Below W.heap.size W (W.alloc (.cells #[] 32)).drew) := ⟨(below_alloc (Below.refl _ _) _).drew⟩
            have E2 : Aside0 ((W.alloc (.cells #[] 32)).drew.ownsRow w.heap.size 32 9 (Value.slice (some ⟨bu, 0, none⟩) xs.length cu) xs.length (cls xs)) := ⟨pw_own_below HO.out.row BA.out⟩
            have E3 : Aside0 (∀ j u, ((cls xs).take (p * 9))[j]? = some u → (W.alloc (.cells #[] 32)).drew.cell? ((⟨bu, 0, none⟩ : Addr).add j) = some u) := ⟨fun j u hu => news_of_own E2.out j u (take_some hu)⟩
            have n1' : Aside0 (((cls xs).take (p * 9)).length = p * 9) := ⟨by rw [List.length_take, hcl]; omega⟩
            have n2' : Aside0 (((cls xs).drop ((p + 1) * 9)).length = (xs.length - (p + 1)) * 9) := ⟨by rw [List.length_drop, hcl]; omega⟩
            have m1 : Aside0 (∀ u ∈ (cls xs).take (p * 9), u.oneCell' = true) := ⟨fun u hu => hone u (List.mem_of_mem_take hu)⟩
            have m2 : Aside0 (∀ u ∈ (cls xs).drop ((p + 1) * 9), u.oneCell' = true) := ⟨fun u hu => hone u (List.mem_of_mem_drop hu)⟩
            have b1' : Aside0 (0 + p ≤ maxLen) := ⟨by unfold maxLen; omega⟩
            have b2' : Aside0 ((0 + p) * 88 ≤ 140737488355328) := ⟨by omega⟩
            have b3' : Aside0 (p + (xs.length - (p + 1)) ≤ maxLen) := ⟨by unfold maxLen; omega⟩
            have b4' : Aside0 ((p + (xs.length - (p + 1))) * 88 ≤ 140737488355328) := ⟨by omega⟩
            have b5' : Aside0 (w.heap.size ≤ (W.alloc (.cells #[] 32)).drew.heap.size) := ⟨Nat.le_trans SB BA.out.size⟩
            have bW := own_lt HO.out.row bu rfl
            have q2 : Aside0 (bu ≠ W.heap.size) := ⟨by omega⟩
            have x1 : IntKind.i64.wrap ((p : Int) + 1) = (p : Int) + 1 := by rw [IntKind.wrap_i64]; omega
            have x3 : ((p : Int) + 1).toNat = p + 1 := by omega
            have x4 : (0 : Int) ≤ (p : Int) + 1 := by omega
            have x5 : p ≤ cu := by omega
            have x8 : (p : Int) + 1 ≤ (xs.length : Int) := by omega
            have x6 : p + 1 ≤ cu := by omega
            have x7 : p + 1 ≤ xs.length := by omega
            obtain ⟨AD, hA, hsrc⟩ : ∃ AD : Addr, (if cu = p + 1 then some (⟨bu, 0, none⟩ : Addr) else some ⟨bu, (p + 1) * 9, none⟩) = some AD ∧ Aside0 (∀ W1 : World, W1.ownsRow w.heap.size 32 9 (Value.slice (some ⟨bu, 0, none⟩) xs.length cu) xs.length (cls xs) → ∀ j u, ((cls xs).drop ((p + 1) * 9))[j]? = some u → W1.cell? (AD.add j) = some u) := by
              by_cases h : cu = p + 1
              · refine ⟨⟨bu, 0, none⟩, by simp [h], ⟨fun W1 _ t u hu => ?_⟩⟩
                have h0 : ((cls xs).drop ((p + 1) * 9)).length = 0 := by rw [n2'.out]; omega
                rw [List.length_eq_zero_iff.1 h0] at hu
                simp at hu
              · refine ⟨⟨bu, (p + 1) * 9, none⟩, by simp [h], ⟨fun W1 hW1 t u hu => ?_⟩⟩
                have ht := (List.getElem?_eq_some_iff.1 hu).1
                rw [n2'.out] at ht
                rw [Addr.add_mid, hW1.cellAt _ (by omega)]
                rw [List.getElem?_drop] at hu
                exact hu
            clear SB hcl hone bW
            go_region_law (first | (refine st_append (W := (W.alloc (.cells #[] 32)).drew) (.tmp 110) (.tmp 113) 38 32 rfl rfl w.heap.size _ 9 88 Try.underlying38 Try.info32 rfl (by decide) (.slice (some ⟨W.heap.size, 0, none⟩) 0 0) 0 [] rfl E1.out ⟨bu, 0, none⟩ p cu ((cls xs).take (p * 9)) rfl n1'.out E3.out m1.out b1'.out b2'.out b5'.out ?_; intro u1 w1 ho1 hm1 _ hat1; rw [Nat.zero_add] at ho1; have G1 := Aside0.mk ho1; have G2 := Aside0.mk hm1; have G3 := Aside0.mk (show ∀ b, u1.ownBlock = some b → W.heap.size ≤ b from fun b e => hat1.elim (fun h => Nat.le_of_eq (Option.some.inj (h.symm.trans e))) (fun h => by have := Option.some.inj (h.symm.trans e); have := BA.out.size; omega)); have G4 := Aside0.mk (hm1.own E2.out (fun q hq e => q2.out ((Option.some.inj hq).trans (Option.some.inj e)))); have G5 := Aside0.mk (show w.heap.size ≤ w1.heap.size from Nat.le_trans b5'.out hm1.size); clear ho1 hm1 hat1) | (refine st_append (W := w1) (.tmp 114) (.tmp 118) 38 32 rfl rfl w.heap.size _ 9 88 Try.underlying38 Try.info32 rfl (by decide) u1 p _ rfl G1.out AD (xs.length - (p + 1)) (cu - (p + 1)) ((cls xs).drop ((p + 1) * 9)) rfl n2'.out (hsrc.out w1 G4.out) m2.out b3'.out b4'.out G5.out ?_; intro u2 w2 ho2 hm2 _ hat2; have J1 := Aside0.mk ho2; have J2 := Aside0.mk hm2; have J3 := Aside0.mk hat2; obtain ⟨Au2, cu2, rfl⟩ := own_slice ho2; clear ho2 hm2 hat2))
            all_goals
              have L := List.length_eraseIdx_of_lt hpl
              have BW := (BA.out.trans (G2.out.below (B := W.heap.size) (fun k hk => Nat.le_of_eq (Option.some.inj hk).symm) BA.out.size)).trans (J2.out.below (B := W.heap.size) (fun k hk => G3.out k hk.symm) (Nat.le_trans BA.out.size G2.out.size))
              have HO9 := Aside0.mk (HO.out.anew (ys1 := xs.eraseIdx p) (show w2.ownsRow w.heap.size 32 9 (.slice Au2 (p + (xs.length - (p + 1))) cu2) _ _ from by rw [L, show xs.length - 1 = p + (xs.length - (p + 1)) by omega, cls_erase xs p, ← List.nil_append (List.take (p * 9) (cls xs))]; exact J1.out) BW (fun b e => J3.out.elim (fun h => G3.out b (h.symm.trans e)) (fun h => by have := Option.some.inj (h.symm.trans e); have := BA.out.size; have := G2.out.size; omega)))
              have L9 := Aside0.mk L
              clear HO L BW
              go_wp2_with fail
              go_roundg (n1 - (i + 1))
              case measure => omega
              case rel => exact ⟨i + 1, v1, Au2, cu2, xs.eraseIdx p, by rw [L9.out, show xs.length - 1 = p + (xs.length - (p + 1)) by omega], by go_num, by omega, by rw [L9.out]; omega, HO9.out⟩
          · go_upto_region 24 with (first | (go_at_call 21; (with_reducible refine (copyZ w.heap.size g v xs p f _ HO.out.a y2 HX.out HLE.out).mono ?_); rintro e_1 w_1 ⟨rfl, hb⟩; have HO_n := Aside0.mk (HO.out.far hb); clear HO; have HO := HO_n; clear HO_n; clear hb) | (refine gate_ (.alloc 32) rfl ?_; refine box_event ?hg (N := 14) ?hd (cs := (cl z).toArray) (t := 32) ?hr ?_; (case hd => rfl); (case hg => rfl); (case hr => first | (go_simp; done) | (go_simp; rfl)); intro g14 hgb w_1 hbox hb; have K_14 := Aside0.mk hbox; have F_14 := Aside0.mk (HO.out.new hgb); have HO_n := Aside0.mk (HO.out.far hb); clear HO; have HO := HO_n; clear HO_n; clear hgb hbox hb) | (refine ev_store_row (.store 32 (.tmp 14) (.tmp 98)) rfl rfl rfl 32 (.tmp 14) (.tmp 98) rfl g14 (cl f).toArray rfl rfl 32 (cl z).toArray K_14.out (by kernel_rfl) rfl (cls_all _) ?_; intro w_2 hw2 hm2; have HO_n := Aside0.mk (HO.out.side hm2 F_14.out); clear HO K_14; have HO := HO_n; have K_14 := Aside0.mk hw2; clear HO_n hw2 hm2))
            obtain ⟨d0, d1, d2, d3, d4, d5, d6, d7, d8⟩ := nine0 K_14.out
            obtain ⟨e0, e1, e2, e3, e4, e5, e6, e7, e8⟩ := nine (row_range HO.out.row p f HF.out)
            go_region_held3 (fun W' => W'.cell? ⟨g14, 0, none⟩ = some (.int .i64 f.f0) ∧ W'.cell? ⟨g14, 1, none⟩ = some (.int .i64 f.f1) ∧ W'.cell? ⟨g14, 2, none⟩ = some (.int .i64 f.f2) ∧ W'.cell? ⟨g14, 3, none⟩ = some (.int .i64 f.f3) ∧ W'.cell? ⟨g14, 4, none⟩ = some (.int .i64 f.f4) ∧ W'.cell? ⟨g14, 5, none⟩ = some (.int .i64 f.f5) ∧ W'.cell? ⟨g14, 6, none⟩ = some (.string f.f6) ∧ W'.cell? ⟨g14, 7, none⟩ = some (.int .i64 f.f7) ∧ W'.cell? ⟨g14, 8, none⟩ = some (.string f.f8) ∧ W'.cell? ⟨bu, p * 9, none⟩ = some (.int .i64 f.f0) ∧ W'.cell? ⟨bu, p * 9 + 1, none⟩ = some (.int .i64 f.f1) ∧ W'.cell? ⟨bu, p * 9 + 2, none⟩ = some (.int .i64 f.f2) ∧ W'.cell? ⟨bu, p * 9 + 3, none⟩ = some (.int .i64 f.f3) ∧ W'.cell? ⟨bu, p * 9 + 4, none⟩ = some (.int .i64 f.f4) ∧ W'.cell? ⟨bu, p * 9 + 5, none⟩ = some (.int .i64 f.f5) ∧ W'.cell? ⟨bu, p * 9 + 6, none⟩ = some (.string f.f6) ∧ W'.cell? ⟨bu, p * 9 + 7, none⟩ = some (.int .i64 f.f7) ∧ W'.cell? ⟨bu, p * 9 + 8, none⟩ = some (.string f.f8)) (exact ⟨d0, d1, d2, d3, d4, d5, d6, d7, d8, e0, e1, e2, e3, e4, e5, e6, e7, e8⟩) (fail)
            clear d0 d1 d2 d3 d4 d5 d6 d7 d8 e0 e1 e2 e3 e4 e5 e6 e7 e8 K_14 F_14
            go_wp2_with fail
            go_roundg (n1 - (i + 1))
            case measure => omega
            case rel => exact ⟨i + 1, v, _, cu, xs, rfl, by go_num, by omega, hx40, HO.out.far (below_drew (Below.refl _ _))⟩
        · have HLE := Aside0.mk (show xs.length ≤ 4000 from by omega)
          go_wp2_with (first | (go_at_call 24; (with_reducible refine (list_calls w.heap.size g v xs _ HO.out.a HLE.out).mono ?_); rintro e_1 w_1 ⟨vl, rfl, hrow, hb⟩; have HR := Aside0.mk hrow; have HO_n := Aside0.mk (HO.out.far hb); clear HO; have HO := HO_n; clear HO_n; clear hb hrow) | (go_at_call 23; (with_reducible refine (same_calls _ _ _ _ xs _ HR.out HO.out.row HLE.out).mono ?_); rintro e_1 w_1 ⟨rfl, hb⟩; have HO_n := Aside0.mk (HO.out.far hb); clear HO; have HO := HO_n; clear HO_n; clear hb) | (go_at_call 7; (with_reducible refine (runs_calls _).mono ?_); rintro e_1 w_1 ⟨rfl, hb⟩; have HO_n := Aside0.mk (HO.out.far hb); clear HO; have HO := HO_n; clear HO_n; clear hb))
          all_goals go_ret
          all_goals exact ⟨rfl, HO.out.below⟩
end Go.Proofs.Ytiifekdcikcgpaa.Net
