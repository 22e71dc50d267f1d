/- MailPlays answers true. -/
import Derived.Test.YtnfnbcbbiaheeaaMl9
import Derived.BigQuiet
namespace Go.Proofs.Ytnfnbcbbiaheeaa.Ml
open Go.RowKit Go.Proofs.YtnfnbcbbiaheeaaW.PrintWords Go.Proofs.YtnfnbcbbiaheeaaW.PrintLast Go.Proofs.YtnfnbcbbiaheeaaW.PrintMore Go.Proofs.Ytnfnbcbbiaheeaa.Lib Go.Proofs.Ytnfnbcbbiaheeaa.Open
theorem eq44 (x y : Fr) (d : Nat) (w : World) : (Op.equalIn (d + 2) 44 (.agg (cl x).toArray) (.agg (cl y).toArray)).run Try.prog w = .ok (x.f0 == y.f0 && (x.f1 == y.f1 && (x.f2 == y.f2 && (x.f3 == y.f3 && (x.f4 == y.f4 && (x.f5 == y.f5 && (x.f6.toList == y.f6.toList && (x.f7 == y.f7 && (x.f8.toList == y.f8.toList))))))))) w := by
  simp only [cl]
  refine eqA_of Try.underlying44 (by kernel_rfl) ?_
  refine eqf_cons (by rfl) (by go_simp; rfl) (by go_simp; rfl) (by go_simp) ?_
  refine eqf_cons (by rfl) (by go_simp; rfl) (by go_simp; rfl) (by go_simp) ?_
  refine eqf_cons (by rfl) (by go_simp; rfl) (by go_simp; rfl) (by go_simp) ?_
  refine eqf_cons (by rfl) (by go_simp; rfl) (by go_simp; rfl) (by go_simp) ?_
  refine eqf_cons (by rfl) (by go_simp; rfl) (by go_simp; rfl) (by go_simp) ?_
  refine eqf_cons (by rfl) (by go_simp; rfl) (by go_simp; rfl) (by go_simp) ?_
  refine eqf_cons (by rfl) (by go_simp; rfl) (by go_simp; rfl) (by go_simp) ?_
  refine eqf_cons (by rfl) (by go_simp; rfl) (by go_simp; rfl) (by go_simp) ?_
  exact eqf_last (by rfl) (by go_simp; rfl) (by go_simp; rfl) (by go_simp)
theorem neq_self (x : Fr) (w : World) : (binOp .neq 44 (.agg (cl x).toArray) (.agg (cl x).toArray)).run Try.prog w = .ok (.bool false) w := by
  have h := eq44 x x 9998 w
  simp only [beq_self_eq_true, Bool.and_true] at h
  simp only [binOp]
  simp [Op.equal, Op.maxDepth, h]
/-- A call. -/
structure Ak where
  kind : Int
  f : Fr
def acl (a : Ak) : List Value := .int .i64 a.kind :: cl a.f
theorem acl_length (a : Ak) : (acl a).length = 10 := rfl
def akL : List Leaf := [.int .i64, .int .i64, .int .i64, .int .i64, .int .i64, .int .i64, .int .i64, .str, .int .i64, .str]
theorem ak_mk (cs : List Value) (h : Fits akL cs) : ∃ a, cs = acl a := by
  obtain ⟨k, _, rfl, _, x0, _, rfl, _, x1, _, rfl, _, x2, _, rfl, _, x3, _, rfl, _, x4, _, rfl, _, x5, _, rfl, _, x6, _, rfl, _, x7, _, rfl, _, x8, _, rfl, _, rfl⟩ := h
  exact ⟨⟨k, ⟨x0, x1, x2, x3, x4, x5, x6, x7, x8⟩⟩, rfl⟩
/-- A call of the argument, wherever the walk stands. -/
theorem arg_ask {w : World} {A : Option Addr} {n : Nat} {l : List Ak} (h : Arg acl w A n l) {i : Nat} (hi : i < n) :
    ∃ (x : Ak) (b o : Nat), A = some ⟨b, o, none⟩ ∧ ∀ W, Below w.heap.size w W → W.cell? ⟨b, o + i * 10, none⟩ = some (.int .i64 x.kind) ∧ W.rangeAt b (o + i * 10 + 1) (cl x.f) := by
  obtain ⟨x, hx⟩ : ∃ x, l[i]? = some x := ⟨_, List.getElem?_eq_getElem (by have := h.1; omega)⟩
  obtain ⟨b, o, rfl, _⟩ := h.at_ acl_length i x hx
  refine ⟨x, b, o, rfl, fun W hb => ?_⟩
  obtain ⟨b', o', e, hr⟩ := (h.below hb).at_ acl_length i x hx
  obtain ⟨rfl, rfl⟩ : b = b' ∧ o = o' := by
    injection e with e
    injection e with e1 e2
    exact ⟨e1, e2⟩
  refine ⟨hr 0 _ rfl, fun j v hv => ?_⟩
  rw [Nat.add_assoc, Nat.add_comm 1 j]
  exact hr (j + 1) v hv
theorem Cuts.far {B : Nat} {W W1 : World} {v : Value} {fs : List Fr} (h : Cuts B W v fs) (hb : Below W.heap.size W W1) : Cuts B W1 v fs := h.imp id (fun ⟨g, off, cap, e, hc⟩ => ⟨g, off, cap, e, hc.far hb⟩)
theorem Cuts.mod {B : Nat} {W W1 : World} {v : Value} {fs : List Fr} {S : Nat → Prop} (h : Cuts B W v fs) (hm : Mod S W W1) (hs : ∀ k, v.ownBlock = some k → ¬ S k) : Cuts B W1 v fs := h.imp id (fun ⟨g, off, cap, e, hc⟩ => ⟨g, off, cap, e, hc.mod hm (hs g (by rw [e]; rfl))⟩)
theorem Cuts.blk {B : Nat} {W : World} {v : Value} {fs : List Fr} (h : Cuts B W v fs) {k : Nat} (hk : v.ownBlock = some k) : ∃ cur, W.heap[k]? = some (.cells cur 44 (0, 0)) := by
  rcases h with ⟨rfl, _⟩ | ⟨g, off, cap, rfl, hc⟩
  · cases hk
  · obtain ⟨cur, h1, _⟩ := hc.at_
    obtain rfl : g = k := Option.some.inj hk
    exact ⟨cur, h1⟩
theorem Cuts.ge {B : Nat} {W : World} {v : Value} {fs : List Fr} (h : Cuts B W v fs) {k : Nat} (hk : v.ownBlock = some k) : B ≤ k := by
  rcases h with ⟨rfl, _⟩ | ⟨g, off, cap, rfl, hc⟩
  · cases hk
  · obtain rfl : g = k := Option.some.inj hk
    exact hc.ge
theorem Cuts.val {B : Nat} {W : World} {v : Value} {fs : List Fr} (h : Cuts B W v fs) : ∃ A c, v = .slice A fs.length c := by
  rcases h with ⟨rfl, rfl⟩ | ⟨g, off, cap, rfl, _⟩
  · exact ⟨_, _, rfl⟩
  · exact ⟨_, _, rfl⟩
/-- A box with frames xs, and frames ys laid beside. -/
structure Pm (w0 W : World) (g c m : Nat) (v : Value) (xs ys : List Fr) : Prop where
  bx : Bx W g c m xs
  cut : Cuts w0.heap.size W v ys
  c0 : w0.heap.size ≤ c
  below : Below w0.heap.size w0 W
section
variable {w0 W W1 : World} {g c m : Nat} {v : Value} {xs ys : List Fr}
theorem Pm.far (p : Pm w0 W g c m v xs ys) (hb : Below W.heap.size W W1) : Pm w0 W1 g c m v xs ys := ⟨p.bx.below hb, p.cut.far hb, p.c0, below_then p.below p.below.size hb⟩
theorem Pm.notc (p : Pm w0 W g c m v xs ys) : ∀ k, v.ownBlock = some k → ¬ k = c := fun k hk e => by
  obtain ⟨cur, h1⟩ := p.cut.blk hk
  obtain ⟨_, _, hc⟩ := p.bx.ch
  rw [← e, h1] at hc
  cases hc
theorem Pm.chan {zs : List Fr} (p : Pm w0 W g c m v xs ys) (hx : Bx W1 g c m zs) (hm : Mod (fun k => k = c) W W1) : Pm w0 W1 g c m v zs ys := ⟨hx, p.cut.mod hm p.notc, p.c0, hm.after p.below p.below.size (fun k hk => by rw [hk]; exact p.c0)⟩
theorem Pm.app {v1 : Value} {zs : List Fr} (p : Pm w0 W g c m v xs ys) (hc : Cuts w0.heap.size W1 v1 zs) (hm : Mod (fun k => some k = v.ownBlock) W W1) : Pm w0 W1 g c m v1 xs zs :=
  ⟨p.bx.mod hm (fun e => by obtain ⟨cur, h1⟩ := p.cut.blk e.symm; exact blk_ne p.bx.blk h1 (by decide) rfl) (fun e => p.notc c e.symm rfl), hc, p.c0, hm.after p.below p.below.size (fun k hk => p.cut.ge hk.symm)⟩
theorem Pm.side (p : Pm w0 W g c m v xs ys) {q : Nat} {cur : Array Value} (hm : Mod (fun k => k = q) W W1) (hq : W.heap[q]? = some (.cells cur 44 (0, 0))) (hv : v.ownBlock ≠ some q) (h0 : w0.heap.size ≤ q) : Pm w0 W1 g c m v xs ys :=
  ⟨p.bx.mod hm (fun e => blk_ne p.bx.blk hq (by decide) e) (fun e => by obtain ⟨_, _, hc⟩ := p.bx.ch; rw [e, hq] at hc; cases hc), p.cut.mod hm (fun k hk e => hv (by rw [hk, e])), p.c0, hm.after p.below p.below.size (fun k hk => by rw [hk]; exact h0)⟩
theorem Pm.new (p : Pm w0 W g c m v xs ys) : v.ownBlock ≠ some W.heap.size := fun e => by
  obtain ⟨cur, h1⟩ := p.cut.blk e
  exact Nat.lt_irrefl _ (blk_lt h1)
end
theorem Cuts.addr {B : Nat} {W : World} {A : Option Addr} {n c : Nat} {x : Fr} {ys : List Fr} (h : Cuts B W (.slice A n c) (x :: ys)) : ∃ gq off, A = some ⟨gq, off, none⟩ := by
  rcases h with ⟨_, e⟩ | ⟨g, off, cap, e, _⟩
  · cases e
  · injection e with e _ _
    exact ⟨g, off, e⟩
theorem Cuts.at_ {B : Nat} {W : World} {gq off n c : Nat} {fs : List Fr} (h : Cuts B W (.slice (some ⟨gq, off, none⟩) n c) fs) : Cut B W gq off c fs := by
  rcases h with ⟨e, _⟩ | ⟨g, off', cap, e, hc⟩
  · cases e
  · injection e with e1 e2 e3
    injection e1 with e1
    injection e1 with e1 e4
    subst e1 e3 e4
    exact hc
theorem Cuts.cap {B : Nat} {W : World} {A : Option Addr} {n c : Nat} {x : Fr} {ys : List Fr} (h : Cuts B W (.slice A n c) (x :: ys)) : (x :: ys).length ≤ c := by
  obtain ⟨gq, off, rfl⟩ := h.addr
  exact h.at_.le
theorem Pm.cutnil {w0 W : World} {g c m gq off n k : Nat} {x : Fr} (p : Pm w0 W g c m (.slice (some ⟨gq, off, none⟩) n k) [] [x]) : Pm w0 W g c m (.slice (some ⟨gq, off, none⟩) 0 0) [] [] := by
  have hc := p.cut.at_
  obtain ⟨cur, h1, h2, _⟩ := hc.at_
  exact ⟨p.bx, .inr ⟨gq, off, 0, rfl, hc.ge, ⟨cur, h1, by omega, fun j u hu => by cases hu⟩, Nat.le_refl _⟩, p.c0, p.below⟩
theorem Pm.cuttail {w0 W : World} {g c m gq off n k : Nat} {x : Fr} {ys : List Fr} (p : Pm w0 W g c m (.slice (some ⟨gq, off, none⟩) n k) ys (x :: ys)) : Pm w0 W g c m (.slice (some ⟨gq, off + 9, none⟩) ys.length (k - 1)) ys ys :=
  ⟨p.bx, .inr ⟨gq, off + 9, k - 1, rfl, p.cut.at_.tail⟩, p.c0, p.below⟩
theorem neq_lit (x : Fr) (w : World) : (binOp .neq 44 (.agg #[.int .i64 x.f0, .int .i64 x.f1, .int .i64 x.f2, .int .i64 x.f3, .int .i64 x.f4, .int .i64 x.f5, .string x.f6, .int .i64 x.f7, .string x.f8]) (.agg #[.int .i64 x.f0, .int .i64 x.f1, .int .i64 x.f2, .int .i64 x.f3, .int .i64 x.f4, .int .i64 x.f5, .string x.f6, .int .i64 x.f7, .string x.f8])).run Try.prog w = .ok (.bool false) w := neq_self x w
theorem take_none_m (g c m : Nat) (w : World) (hI : Bx w g c m []) : Calls Try.prog 23 #[.pointer (some ⟨g, 0, none⟩)] w fun e w' => e = .returned (.tuple #[.agg (cl z).toArray, .bool false]) ∧ Bx w' g c m [] ∧ Mod (fun k => k = c) w w' := take_none g c m w hI
def PlAt (w0 : World) (g c m N : Nat) (k : Nat) (s7 s8 : Value) (wr : World) : Prop :=
  ∃ (i : Nat) (xs : List Fr), s8 = .int .i64 (i : Int) ∧ i + k = N ∧ Pm w0 wr g c m s7 xs xs ∧ xs.length ≤ i
set_option maxHeartbeats 8000000 in
set_option maxRecDepth 100000 in
theorem playsno_calls (a0 : Int) (A : Option Addr) (n cap : Nat) (w : World) (h : a0 < 1 ∨ 256 < a0) :
    Calls Try.prog 8 #[.int .i64 a0, .slice A n cap] w fun e w' => e = .returned (.bool true) ∧ Below w.heap.size w w' := by
  have HB := Aside0.mk (Below.refl w.heap.size w)
  have HN := Aside0.mk h
  by_cases h1 : a0 < 1
  · have t0 : decide (a0 < 1) = true := decide_eq_true h1
    clear h h1
    go_enter Try.func8, Try.ntmps8
    go_wp2_with (first | (go_at_call 29; (with_reducible refine (new_no a0 _ HN.out).mono ?_); rintro e_1 w_1 ⟨rfl, hb⟩; have HB_n := Aside0.mk (below_step HB.out hb); clear HB; have HB := HB_n; clear HB_n hb) | (go_at_call 7; (with_reducible refine (runs_calls _).mono ?_); rintro e_1 w_1 ⟨rfl, hb⟩; have HB_n := Aside0.mk (below_step HB.out hb); clear HB; have HB := HB_n; clear HB_n hb))
    go_ret
    exact ⟨rfl, HB.out⟩
  · have t0 : decide (a0 < 1) = false := decide_eq_false h1
    have t1 : decide (256 < a0) = true := decide_eq_true (by omega)
    clear h h1
    go_enter Try.func8, Try.ntmps8
    go_wp2_with (first | (go_at_call 29; (with_reducible refine (new_no a0 _ HN.out).mono ?_); rintro e_1 w_1 ⟨rfl, hb⟩; have HB_n := Aside0.mk (below_step HB.out hb); clear HB; have HB := HB_n; clear HB_n hb) | (go_at_call 7; (with_reducible refine (runs_calls _).mono ?_); rintro e_1 w_1 ⟨rfl, hb⟩; have HB_n := Aside0.mk (below_step HB.out hb); clear HB; have HB := HB_n; clear HB_n hb))
    go_ret
    exact ⟨rfl, HB.out⟩
set_option maxHeartbeats 8000000 in
set_option maxRecDepth 100000 in
theorem playsyes_calls (m : Nat) (A : Option Addr) (n cap : Nat) (l : List Ak) (w : World) (hA : Arg acl w A n l) (hm1 : 1 ≤ m) (hm2 : m ≤ 256) :
    Calls Try.prog 8 #[.int .i64 (m : Int), .slice A n cap] w fun e w' => e = .returned (.bool true) ∧ Below w.heap.size w w' := by
  have hu44 := Try.underlying44
  have HA := Aside0.mk hA
  have HM := Aside0.mk (And.intro hm1 hm2)
  have hn1 : n ≤ 9223372036854775807 := hA.2.1
  have t0 : decide ((m : Int) < 1) = false := decide_eq_false (by omega)
  have t1 : decide (256 < (m : Int)) = false := decide_eq_false (by omega)
  clear hA
  go_enter Try.func8, Try.ntmps8
  go_wp2_with (go_at_call 29; (with_reducible refine (new_ok m _ HM.out.1 HM.out.2).mono ?_); rintro e_1 w_1 ⟨g, c, rfl, hx, hg, hc, hb⟩; have HP := Aside0.mk (show Pm w w_1 g c m (.slice none 0 0) [] [] from ⟨hx, .inl ⟨rfl, rfl⟩, hc, hb⟩); clear hx hg hc hb)
  have HF := Aside0.mk (show PlAt w g c m (min n 100) (min n 100) (.slice none 0 0) (.int .i64 0) w_1 from ⟨0, [], rfl, by omega, HP.out, Nat.le_refl _⟩)
  obtain ⟨N, hN⟩ : ∃ N, N = min n 100 := ⟨_, rfl⟩
  rw [← hN] at HF
  clear HP t0 t1
  go_loopg [7, 8] N (fun k s7 s8 wr => PlAt w g c m N k s7 s8 wr)
  case atStart => exact HF.out
  case round =>
    clear HF
    obtain ⟨i, xs, rfl, hik, hp, hl⟩ := hrel
    obtain ⟨Av, cv, rfl⟩ := hp.cut.val
    have HP := Aside0.mk hp
    clear hp
    by_cases hlt : i < N
    · obtain ⟨a, b, o, rfl, hca⟩ := arg_ask HA.out (i := i) (by omega)
      have HC := Aside0.mk hca
      have hi1 : i < n := by omega
      have hi2 : i < 100 := by omega
      have r1 : decide ((i : Int) < (n : Int)) = true := decide_eq_true (by omega)
      have r2 : decide ((i : Int) < 100) = true := decide_eq_true (by omega)
      have ca := (hca _ HP.out.below).1
      clear hca
      by_cases k1 : a.kind = 1
      · have e1 : (a.kind == 1) = true := beq_iff_eq.2 k1
        clear k1
        by_cases hr : xs.length < m
        · have r3 : decide ((xs.length : Int) < (m : Int)) = true := decide_eq_true (by omega)
          have HR := Aside0.mk hr
          have HLX := Aside0.mk (show xs.length ≤ 1000 by omega)
          go_wp2_with (first | (refine ev_load_mid (.load 44 (.tmp 62)) rfl rfl 44 (.tmp 62) rfl b (o + i * 10 + 1) rfl (cl a.f) _ (HC.out _ HP.out.below).2 hu44 rfl (by kernel_rfl) ?_) | (refine ev_load_mid (.load 44 (.tmp 72)) rfl rfl 44 (.tmp 72) rfl b (o + i * 10 + 1) rfl (cl a.f) _ (HC.out _ HP.out.below).2 hu44 rfl (by kernel_rfl) ?_) | (go_at_call 21; (with_reducible refine (put_room g c m xs a.f _ HP.out.bx HR.out).mono ?_); rintro e_1 w_1 ⟨rfl, hx, hm⟩; have HP_n := Aside0.mk (HP.out.chan hx hm); clear HP; have HP := HP_n; clear HP_n hx hm) | (refine ev_lit (.buildSlice 48 1 #[(0, .tmp 73)]) rfl rfl 1 (cl a.f).toArray 44 ?hr ?_; (case hr => (simp only [cl]; first | (go_simp; done) | (go_simp; rfl))); intro g1 hg1 w_1 hk1 hb; have HK := Aside0.mk hk1; have HP_n := Aside0.mk (HP.out.far hb); clear HP; have HP := HP_n; clear HP_n hg1 hk1 hb) | (refine ev_append_cut (.tmp 68) (.tmp 74) rfl rfl _ xs a.f rfl HP.out.cut g1 rfl HK.out HLX.out HP.out.below.size ?_; intro v2 w_2 hc2 hm2; have HP_n := Aside0.mk (HP.out.app hc2 hm2); obtain ⟨Av2, cv2, rfl⟩ := hc2.val; clear HP; have HP := HP_n; clear HP_n hc2 hm2) | (go_at_call 26; (with_reducible refine (len_calls g c m _ _ HP.out.bx).mono ?_); rintro e_1 w_1 ⟨rfl, hb⟩; have HP_n := Aside0.mk (HP.out.far hb); clear HP; have HP := HP_n; clear HP_n hb))
          go_roundg (N - (i + 1))
          case measure => omega
          case rel => exact ⟨i + 1, xs ++ [a.f], by go_num, by omega, by have := HP.out; rw [List.length_append, List.length_singleton] at this; exact this, by rw [List.length_append, List.length_singleton]; omega⟩
        · have r3 : decide ((xs.length : Int) < (m : Int)) = false := decide_eq_false (by omega)
          have HR := Aside0.mk (show xs.length = m by have := HP.out.bx.le; omega)
          go_wp2_with (first | (refine ev_load_mid (.load 44 (.tmp 62)) rfl rfl 44 (.tmp 62) rfl b (o + i * 10 + 1) rfl (cl a.f) _ (HC.out _ HP.out.below).2 hu44 rfl (by kernel_rfl) ?_) | (go_at_call 21; (with_reducible refine (put_full g c m xs a.f _ HP.out.bx HR.out).mono ?_); rintro e_1 w_1 ⟨rfl, hx, hm⟩; have HP_n := Aside0.mk (HP.out.chan hx hm); clear HP; have HP := HP_n; clear HP_n hx hm) | (go_at_call 26; (with_reducible refine (len_calls g c m _ _ HP.out.bx).mono ?_); rintro e_1 w_1 ⟨rfl, hb⟩; have HP_n := Aside0.mk (HP.out.far hb); clear HP; have HP := HP_n; clear HP_n hb))
          go_roundg (N - (i + 1))
          case measure => omega
          case rel => exact ⟨i + 1, xs, by go_num, by omega, HP.out, by omega⟩
      · have e1 : (a.kind == 1) = false := beq_eq_false_iff_ne.2 k1
        clear k1
        cases xs with
        | nil =>
          go_wp2_with (first | (go_at_call 23; (with_reducible refine (take_none_m g c m _ HP.out.bx).mono ?_); rintro e_1 w_1 ⟨rfl, hx, hm⟩; have HP_n := Aside0.mk (HP.out.chan hx hm); clear HP; have HP := HP_n; clear HP_n hx hm) | (refine gate_ (.alloc 44) rfl ?_; refine box_event ?hg (N := 10) ?hd (cs := (cl z).toArray) (t := 44) ?hr ?_; (case hd => rfl); (case hg => rfl); (case hr => first | (go_simp; done) | (go_simp; rfl)); intro q hgb w_1 hbox hb; have KQ := Aside0.mk hbox; have GQ := Aside0.mk (show w.heap.size ≤ q from by rw [hgb]; exact HP.out.below.size); have NQ := Aside0.mk (show (Value.slice Av ([] : List Fr).length cv).ownBlock ≠ some q from by rw [hgb]; exact HP.out.new); have HP_n := Aside0.mk (HP.out.far hb); clear HP; have HP := HP_n; clear HP_n hgb hbox hb) | (refine ev_store_row (.store 44 (.tmp 10) (.tmp 79)) rfl rfl rfl 44 (.tmp 10) (.tmp 79) rfl q (cl z).toArray rfl rfl 44 (cl z).toArray KQ.out (by kernel_rfl) rfl (cl_all _) ?_; intro w_2 hw2 hm2; have HP_n := Aside0.mk (HP.out.side hm2 KQ.out NQ.out GQ.out); clear HP KQ; have HP := HP_n; have KQ := Aside0.mk hw2; clear HP_n hw2 hm2))
          have k0 := (blk_cell KQ.out 0).trans (show (cl z).toArray[0]? = some (Value.int .i64 0) from rfl)
          have k1 := (blk_cell KQ.out 1).trans (show (cl z).toArray[1]? = some (Value.int .i64 0) from rfl)
          have k2 := (blk_cell KQ.out 2).trans (show (cl z).toArray[2]? = some (Value.int .i64 0) from rfl)
          have k3 := (blk_cell KQ.out 3).trans (show (cl z).toArray[3]? = some (Value.int .i64 0) from rfl)
          have k4 := (blk_cell KQ.out 4).trans (show (cl z).toArray[4]? = some (Value.int .i64 0) from rfl)
          have k5 := (blk_cell KQ.out 5).trans (show (cl z).toArray[5]? = some (Value.int .i64 0) from rfl)
          have k6 := (blk_cell KQ.out 6).trans (show (cl z).toArray[6]? = some (Value.string ⟨#[]⟩) from rfl)
          have k7 := (blk_cell KQ.out 7).trans (show (cl z).toArray[7]? = some (Value.int .i64 0) from rfl)
          have k8 := (blk_cell KQ.out 8).trans (show (cl z).toArray[8]? = some (Value.string ⟨#[]⟩) from rfl)
          have hneq := neq_lit z
          simp only [z] at hneq
          go_quiet (fail)
          have HP_n := Aside0.mk (HP.out.far (pw_below_drewN (Below.refl _ _) nq))
          clear HP
          have HP := HP_n
          clear HP_n
          go_wp2_with (go_at_call 26; (with_reducible refine (len_calls g c m _ _ HP.out.bx).mono ?_); rintro e_1 w_1 ⟨rfl, hb⟩; have HP_n := Aside0.mk (HP.out.far hb); clear HP; have HP := HP_n; clear HP_n hb)
          go_roundg (N - (i + 1))
          case measure => omega
          case rel => exact ⟨i + 1, [], by go_num, by omega, HP.out, by omega⟩
        | cons x ys =>
          obtain ⟨gq, off, rfl⟩ : ∃ gq off, Av = some ⟨gq, off, none⟩ := HP.out.cut.addr
          have hcv : (x :: ys).length ≤ cv := HP.out.cut.cap
          have HCV := Aside0.mk hcv
          have hl1 : 0 < (x :: ys).length := by simp
          clear hcv
          go_wp2_with (first | (go_at_call 23; (with_reducible refine (take_some g c m x ys _ HP.out.bx).mono ?_); rintro e_1 w_1 ⟨rfl, hx, hm⟩; have HP_n := Aside0.mk (HP.out.chan hx hm); clear HP; have HP := HP_n; clear HP_n hx hm) | (refine gate_ (.alloc 44) rfl ?_; refine box_event ?hg (N := 10) ?hd (cs := (cl z).toArray) (t := 44) ?hr ?_; (case hd => rfl); (case hg => rfl); (case hr => first | (go_simp; done) | (go_simp; rfl)); intro q hgb w_1 hbox hb; have KQ := Aside0.mk hbox; have GQ := Aside0.mk (show w.heap.size ≤ q from by rw [hgb]; exact HP.out.below.size); have NQ := Aside0.mk (show (Value.slice (some ⟨gq, off, none⟩) (x :: ys).length cv).ownBlock ≠ some q from by rw [hgb]; exact HP.out.new); have HP_n := Aside0.mk (HP.out.far hb); clear HP; have HP := HP_n; clear HP_n hgb hbox hb) | (refine ev_store_row (.store 44 (.tmp 10) (.tmp 79)) rfl rfl rfl 44 (.tmp 10) (.tmp 79) rfl q (cl x).toArray rfl rfl 44 (cl z).toArray KQ.out (by kernel_rfl) rfl (cl_all _) ?_; intro w_2 hw2 hm2; have HP_n := Aside0.mk (HP.out.side hm2 KQ.out NQ.out GQ.out); clear HP KQ; have HP := HP_n; have KQ := Aside0.mk hw2; clear HP_n hw2 hm2))
          have k0 := (blk_cell KQ.out 0).trans (show (cl x).toArray[0]? = some (Value.int .i64 x.f0) from rfl)
          have k1 := (blk_cell KQ.out 1).trans (show (cl x).toArray[1]? = some (Value.int .i64 x.f1) from rfl)
          have k2 := (blk_cell KQ.out 2).trans (show (cl x).toArray[2]? = some (Value.int .i64 x.f2) from rfl)
          have k3 := (blk_cell KQ.out 3).trans (show (cl x).toArray[3]? = some (Value.int .i64 x.f3) from rfl)
          have k4 := (blk_cell KQ.out 4).trans (show (cl x).toArray[4]? = some (Value.int .i64 x.f4) from rfl)
          have k5 := (blk_cell KQ.out 5).trans (show (cl x).toArray[5]? = some (Value.int .i64 x.f5) from rfl)
          have k6 := (blk_cell KQ.out 6).trans (show (cl x).toArray[6]? = some (Value.string x.f6) from rfl)
          have k7 := (blk_cell KQ.out 7).trans (show (cl x).toArray[7]? = some (Value.int .i64 x.f7) from rfl)
          have k8 := (blk_cell KQ.out 8).trans (show (cl x).toArray[8]? = some (Value.string x.f8) from rfl)
          have hcut := HP.out.cut.at_
          have d0 : w_2.cell? ⟨gq, off, none⟩ = some (.int .i64 x.f0) := hcut.cell (j := 0) rfl
          have d1 : w_2.cell? ⟨gq, off + 1, none⟩ = some (.int .i64 x.f1) := hcut.cell (j := 1) rfl
          have d2 : w_2.cell? ⟨gq, off + 2, none⟩ = some (.int .i64 x.f2) := hcut.cell (j := 2) rfl
          have d3 : w_2.cell? ⟨gq, off + 3, none⟩ = some (.int .i64 x.f3) := hcut.cell (j := 3) rfl
          have d4 : w_2.cell? ⟨gq, off + 4, none⟩ = some (.int .i64 x.f4) := hcut.cell (j := 4) rfl
          have d5 : w_2.cell? ⟨gq, off + 5, none⟩ = some (.int .i64 x.f5) := hcut.cell (j := 5) rfl
          have d6 : w_2.cell? ⟨gq, off + 6, none⟩ = some (.string x.f6) := hcut.cell (j := 6) rfl
          have d7 : w_2.cell? ⟨gq, off + 7, none⟩ = some (.int .i64 x.f7) := hcut.cell (j := 7) rfl
          have d8 : w_2.cell? ⟨gq, off + 8, none⟩ = some (.string x.f8) := hcut.cell (j := 8) rfl
          have hneq := neq_lit x
          clear hcut
          go_quiet (fail)
          have HP_n := Aside0.mk (HP.out.far (pw_below_drewN (Below.refl _ _) nq))
          clear HP
          have HP := HP_n
          clear HP_n
          by_cases hc1 : cv = 1
          · subst hc1
            have hys : ys = [] := by
              have := HCV.out
              rw [List.length_cons] at this
              exact List.length_eq_zero_iff.1 (by omega)
            subst hys
            go_wp2_with (go_at_call 26; (with_reducible refine (len_calls g c m _ _ HP.out.bx).mono ?_); rintro e_1 w_1 ⟨rfl, hb⟩; have HP_n := Aside0.mk (HP.out.far hb); clear HP; have HP := HP_n; clear HP_n hb)
            go_roundg (N - (i + 1))
            case measure => omega
            case rel => exact ⟨i + 1, [], by go_num, by omega, HP.out.cutnil, Nat.zero_le _⟩
          · go_wp2_with (go_at_call 26; (with_reducible refine (len_calls g c m _ _ HP.out.bx).mono ?_); rintro e_1 w_1 ⟨rfl, hb⟩; have HP_n := Aside0.mk (HP.out.far hb); clear HP; have HP := HP_n; clear HP_n hb)
            go_roundg (N - (i + 1))
            case measure => omega
            case rel => exact ⟨i + 1, ys, by go_num, by omega, HP.out.cuttail, by rw [List.length_cons] at hl; omega⟩
    · obtain rfl : i = N := by omega
      by_cases k1 : i < n
      · have r1 : decide ((i : Int) < (n : Int)) = true := decide_eq_true (by omega)
        have k2 : ¬ i < 100 := by omega
        have r2 : decide ((i : Int) < 100) = false := decide_eq_false (by omega)
        go_wp2_with (go_at_call 7; (with_reducible refine (runs_calls _).mono ?_); rintro e_1 w_1 ⟨rfl, hb⟩; have HB2 := Aside0.mk (below_then HP.out.below HP.out.below.size hb); clear hb)
        go_ret
        exact ⟨rfl, HB2.out⟩
      · have r1 : decide ((i : Int) < (n : Int)) = false := decide_eq_false (by omega)
        go_wp2_with (go_at_call 7; (with_reducible refine (runs_calls _).mono ?_); rintro e_1 w_1 ⟨rfl, hb⟩; have HB2 := Aside0.mk (below_then HP.out.below HP.out.below.size hb); clear hb)
        go_ret
        exact ⟨rfl, HB2.out⟩
theorem plays_calls (a0 : Int) (A : Option Addr) (n cap : Nat) (l : List Ak) (w : World) (hA : Arg acl w A n l) :
    Calls Try.prog 8 #[.int .i64 a0, .slice A n cap] w fun e w' => e = .returned (.bool true) ∧ Below w.heap.size w w' := by
  by_cases h : a0 < 1 ∨ 256 < a0
  · exact playsno_calls a0 A n cap w h
  · obtain ⟨m, rfl⟩ : ∃ m : Nat, a0 = (m : Int) := ⟨a0.toNat, by omega⟩
    exact playsyes_calls m A n cap l w hA (by omega) (by omega)
end Go.Proofs.Ytnfnbcbbiaheeaa.Ml
