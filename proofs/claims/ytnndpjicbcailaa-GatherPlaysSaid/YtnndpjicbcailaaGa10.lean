/- GatherPlays answers true. -/
import Derived.Test.YtnndpjicbcailaaGa9
import Derived.Deep.CutRange
import Derived.Deep.RegionHeld3
namespace Go.Proofs.Ytnndpjicbcailaa.Ga
open Go.RowKit Go.Proofs.YtnndpjicbcailaaW.PrintWords Go.Proofs.YtnndpjicbcailaaW.PrintLast Go.Proofs.YtnndpjicbcailaaW.PrintMore Go.Proofs.Ytnndpjicbcailaa.Lib Go.Proofs.Ytnndpjicbcailaa.Open
def icl (x : Int) : List Value := [.int .i64 x]
theorem icl_length (x : Int) : (icl x).length = 1 := rfl
def icL : List Leaf := [.int .i64]
theorem ic_mk (cs : List Value) (h : Fits icL cs) : ∃ a, cs = icl a := by
  obtain ⟨k, _, rfl, _, rfl⟩ := h
  exact ⟨k, rfl⟩
theorem arg_rd {w : World} {A : Option Addr} {n : Nat} {l : List Int} (h : Arg icl w A n l) : Rd w A n l := by
  refine ⟨h.1, h.2.1, fun h0 => ?_⟩
  obtain ⟨b, o, rfl, hr⟩ := h.2.2 h0
  refine ⟨_, rfl, fun j p hj => ⟨[.int .i64 p], rfl, rfl, fun i u hu => ?_⟩⟩
  have := hr (j * 1 + i) u (flat_at icl 1 icl_length l j p hj i u hu)
  rwa [← Addr.add_mid] at this
/-- A call. -/
structure Ak where
  kind : Int
  at_ : Int
  ok : Bool
  data : ByteArray
def acl (a : Ak) : List Value := [.int .i64 a.kind, .int .i64 a.at_, .bool a.ok, .string a.data]
theorem acl_length (a : Ak) : (acl a).length = 4 := rfl
def akL : List Leaf := [.int .i64, .int .i64, .bool, .str]
theorem ak_mk (cs : List Value) (h : Fits akL cs) : ∃ a, cs = acl a := by
  obtain ⟨k, _, rfl, _, x, _, rfl, _, b, _, rfl, s, _, rfl, _, rfl⟩ := h
  exact ⟨⟨k, x, b, s⟩, rfl⟩
/-- A call of the argument, wherever the walk stands. -/
theorem arg_ask {w : World} {A : Option Addr} {n : Nat} {l : List Ak} (h : Arg acl w A n l) {i : Nat} (hi : i < n) :
    ∃ (x : Ak) (b o : Nat), A = some ⟨b, o, none⟩ ∧ ∀ W, Below w.heap.size w W → W.cell? ⟨b, o + i * 4, none⟩ = some (.int .i64 x.kind) ∧ W.cell? ⟨b, o + i * 4 + 1, none⟩ = some (.int .i64 x.at_) ∧ W.cell? ⟨b, o + i * 4 + 2, none⟩ = some (.bool x.ok) ∧ W.cell? ⟨b, o + i * 4 + 3, none⟩ = some (.string x.data) := by
  obtain ⟨x, hx⟩ : ∃ x, l[i]? = some x := ⟨_, List.getElem?_eq_getElem (by have := h.1; omega)⟩
  obtain ⟨b, o, rfl, _⟩ := h.at_ acl_length i x hx
  refine ⟨x, b, o, rfl, fun W hb => ?_⟩
  obtain ⟨b', o', e, hr⟩ := (h.below hb).at_ acl_length i x hx
  obtain ⟨rfl, rfl⟩ : b = b' ∧ o = o' := by
    injection e with e
    injection e with e1 e2
    exact ⟨e1, e2⟩
  exact ⟨hr 0 _ rfl, hr 1 _ rfl, hr 2 _ rfl, hr 3 _ rfl⟩
/-- The program's and the document's Gather, side by side. -/
structure Tw (w0 W : World) (H g r K d : Nat) (L : List Int) (a aw : Nat) (ps : List Pt) (Pv Qv Pw Qw : Value) : Prop where
  x : Gx H W g K d L a aw ps Pv Qv
  y : Rx H W r K d L a aw ps Pw Qw
  sep : ∀ q, Qv.ownBlock = some q → Qw.ownBlock ≠ some q
  below : Below w0.heap.size w0 W
  hw : w0.heap.size ≤ H
theorem typ_ne {W : World} {p q : Nat} {c1 c2 : Array Value} {t1 t2 : TypeId} (h1 : W.heap[p]? = some (.cells c1 t1 (0, 0))) (h2 : W.heap[q]? = some (.cells c2 t2 (0, 0))) (hne : t1 ≠ t2) : p ≠ q := fun e => by
  subst e
  rw [h1] at h2
  injection h2 with h2
  injection h2 with _ h2
  exact hne h2
section
variable {w0 W W1 : World} {H g r K d : Nat} {L : List Int} {a aw a1 aw1 : Nat} {ps ps1 : List Pt} {Pv Qv Pw Qw Q1 : Value}
theorem Tw.far (h : Tw w0 W H g r K d L a aw ps Pv Qv Pw Qw) (hb : Below W.heap.size W W1) : Tw w0 W1 H g r K d L a aw ps Pv Qv Pw Qw :=
  ⟨h.x.far hb, h.y.far hb, h.sep, below_then h.below h.below.size hb, h.hw⟩
/-- The program's block, and its row of parts, are written: the document's stays. -/
theorem Rx.beside (y : Rx H W r K d L a aw ps Pw Qw) {k' d' a' aw' : Nat} {L' : List Int} {ps' : List Pt} (x : Gx H W g k' d' L' a' aw' ps' Pv Qv) (sep : ∀ q, Qv.ownBlock = some q → Qw.ownBlock ≠ some q) (hm : Mod (fun q => q = g ∨ some q = Qv.ownBlock) W W1) : Rx H W1 r K d L a aw ps Pw Qw := by
  refine y.mod hm (fun e => ?_) (fun q hq e => ?_) (fun q hq e => ?_)
  · rcases e with e | e
    · exact typ_ne y.blk x.blk (by decide) e
    · obtain ⟨c, hc⟩ := own_typed x.qr r e.symm
      exact typ_ne y.blk hc (by decide) rfl
  · obtain ⟨c, hc⟩ := own_typed y.pr q hq
    rcases e with e | e
    · exact typ_ne hc x.blk (by decide) e
    · obtain ⟨c', hc'⟩ := own_typed x.qr q e.symm
      exact typ_ne hc hc' (by decide) rfl
  · obtain ⟨c, hc⟩ := own_typed y.qr q hq
    rcases e with e | e
    · exact typ_ne hc x.blk (by decide) e
    · exact sep q e.symm hq
theorem Gx.beside (x : Gx H W g K d L a aw ps Pv Qv) {k' d' a' aw' : Nat} {L' : List Int} {ps' : List Pt} (y : Rx H W r k' d' L' a' aw' ps' Pw Qw) (sep : ∀ q, Qv.ownBlock = some q → Qw.ownBlock ≠ some q) (hm : Mod (fun q => q = r ∨ some q = Qw.ownBlock) W W1) : Gx H W1 g K d L a aw ps Pv Qv := by
  refine x.mod hm (fun e => ?_) (fun q hq e => ?_) (fun q hq e => ?_)
  · rcases e with e | e
    · exact typ_ne x.blk y.blk (by decide) e
    · obtain ⟨c, hc⟩ := own_typed y.qr g e.symm
      exact typ_ne x.blk hc (by decide) rfl
  · obtain ⟨c, hc⟩ := own_typed x.pr q hq
    rcases e with e | e
    · exact typ_ne hc y.blk (by decide) e
    · obtain ⟨c', hc'⟩ := own_typed y.qr q e.symm
      exact typ_ne hc hc' (by decide) rfl
  · obtain ⟨c, hc⟩ := own_typed x.qr q hq
    rcases e with e | e
    · exact typ_ne hc y.blk (by decide) e
    · exact sep q hq e.symm
/-- Blocks below both are written. -/
theorem Tw.low (h : Tw w0 W H g r K d L a aw ps Pv Qv Pw Qw) {S : Nat → Prop} (hm : Mod S W W1) (hs : ∀ q, S q → w0.heap.size ≤ q ∧ (q < H ∨ (q ≠ g ∧ q ≠ r ∧ Pv.ownBlock ≠ some q ∧ Qv.ownBlock ≠ some q ∧ Pw.ownBlock ≠ some q ∧ Qw.ownBlock ≠ some q))) : Tw w0 W1 H g r K d L a aw ps Pv Qv Pw Qw := by
  refine ⟨h.x.mod hm (fun e => ?_) (fun q hq e => ?_) (fun q hq e => ?_), h.y.mod hm (fun e => ?_) (fun q hq e => ?_) (fun q hq e => ?_), h.sep, hm.after h.below h.below.size (fun q hq => (hs q hq).1), h.hw⟩
  · rcases (hs _ e).2 with h1 | h1
    · have := h.x.ge; omega
    · exact h1.1 rfl
  · rcases (hs _ e).2 with h1 | h1
    · have := own_base h.x.pr q hq; omega
    · exact h1.2.2.1 hq
  · rcases (hs _ e).2 with h1 | h1
    · have := own_base h.x.qr q hq; omega
    · exact h1.2.2.2.1 hq
  · rcases (hs _ e).2 with h1 | h1
    · have := h.y.ge; omega
    · exact h1.2.1 rfl
  · rcases (hs _ e).2 with h1 | h1
    · have := own_base h.y.pr q hq; omega
    · exact h1.2.2.2.2.1 hq
  · rcases (hs _ e).2 with h1 | h1
    · have := own_base h.y.qr q hq; omega
    · exact h1.2.2.2.2.2 hq
end
theorem Gx.base {B H : Nat} {W : World} {g k d : Nat} {pl : List Int} {a aw : Nat} {ps : List Pt} {Pv Qv : Value} (h : Gx B W g k d pl a aw ps Pv Qv) (hH : H ≤ B) : Gx H W g k d pl a aw ps Pv Qv := ⟨Nat.le_trans hH h.ge, h.blk, own_weaken h.pr hH, own_weaken h.qr hH, h.pg, h.wf⟩
theorem Rx.base {B H : Nat} {W : World} {g k d : Nat} {pl : List Int} {a aw : Nat} {ps : List Pt} {Pv Qv : Value} (h : Rx B W g k d pl a aw ps Pv Qv) (hH : H ≤ B) : Rx H W g k d pl a aw ps Pv Qv := ⟨Nat.le_trans hH h.ge, h.blk, own_weaken h.pr hH, own_weaken h.qr hH, h.pg, h.wf⟩
/-- The row 'own', being overwritten. -/
def OwnAt (w0 : World) (A9 : Option Addr) (N c9 : Nat) (r : Nat) (s14 : Value) (wr : World) : Prop :=
  ∃ (i : Nat) (vs : List Value), s14 = .int .i64 (i : Int) ∧ i + r = N ∧ wr.ownsRow w0.heap.size 3 1 (.slice A9 N c9) N vs
theorem own_at {W : World} {B N c : Nat} {A : Option Addr} {vs : List Value} (h : W.ownsRow B 3 1 (.slice A N c) N vs) {i : Nat} (hi : i < N) : ∃ g u, A = some ⟨g, 0, none⟩ ∧ W.cell? ⟨g, i, none⟩ = some u ∧ W.frozen? ⟨g, i, none⟩ = false := by
  have h' := h
  rcases h.2 with ⟨e, hz⟩ | ⟨g, cap, cur, e, hg, hh, _⟩
  · omega
  · injection e with e1 e2 e3
    subst e1
    obtain ⟨u, hu⟩ : ∃ u, vs[i]? = some u := ⟨_, List.getElem?_eq_getElem (by have := h.1; omega)⟩
    exact ⟨g, u, rfl, by rw [h'.cellAt i (by omega)]; exact hu, blk_frozen hh _⟩
/-- What New and the document's New answer where the call is refused. -/
theorem both_bad (k d : Int) (A : Option Addr) (n c : Nat) (A9 : Option Addr) (c9 : Nat) (l : List Int) (w : World) (hA : Rd w A n l) (h9 : Rd w A9 n l) (hc9 : n ≤ c9) (h : ¬ (Nums k d n ∧ ∀ i, Good l i)) :
    (∀ W, Below w.heap.size w W → Calls Try.prog 7 #[.int .i64 k, .int .i64 d, .slice A9 n c9] W fun e w' => e = .returned (.tuple #[.pointer none, .int .i64 1]) ∧ Below W.heap.size W w') ∧
    (∀ W, Below w.heap.size w W → Calls Try.prog 14 #[.int .i64 k, .int .i64 d, .slice A n c] W fun e w' => e = .returned (.tuple #[.pointer none, .int .i64 1]) ∧ Below W.heap.size W w') := by
  by_cases hn : Nums k d n
  · rcases first_bad l with hg | ⟨i, hi, hb, hg⟩
    · exact absurd ⟨hn, hg⟩ h
    · exact ⟨fun W hW => new_bad k d A9 n c9 l W hn (h9.below hW) hc9 i hi hb hg, fun W hW => rnew_bad k d A n c l W hn (hA.below hW) i hi hb hg⟩
  · exact ⟨fun W _ => new_nums k d A9 n c9 W hn, fun W _ => rnew_nums k d A n c W hn⟩
theorem state_xr (B g k d : Nat) (pl : List Int) (a aw : Nat) (ps : List Pt) (Pv Qv : Value) (w : World) (h : Gx B w g k d pl a aw ps Pv Qv) (r : Int) (hr : st k ps.length a pl.length aw = r) :
    Calls Try.prog 11 #[.pointer (some ⟨g, 0, none⟩)] w fun e w' => e = .returned (.int .i64 r) ∧ Below w.heap.size w w' := by
  subst hr
  exact state_x B g k d pl a aw ps Pv Qv w h
theorem rstate_xr (B g k d : Nat) (pl : List Int) (a aw : Nat) (ps : List Pt) (Pv Qv : Value) (w : World) (h : Rx B w g k d pl a aw ps Pv Qv) (r : Int) (hr : st k ps.length a pl.length aw = r) :
    Calls Try.prog 17 #[.pointer (some ⟨g, 0, none⟩)] w fun e w' => e = .returned (.int .i64 r) ∧ Below w.heap.size w w' := by
  subst hr
  exact rstate_x B g k d pl a aw ps Pv Qv w h
theorem Gx.gt {B : Nat} {W : World} {g k d : Nat} {pl : List Int} {a aw : Nat} {ps : List Pt} {Pv Qv : Value} (h : Gx B W g k d pl a aw ps Pv Qv) : Gt B W g k d pl a aw ps := ⟨_, _, h⟩
theorem mod2 (W : World) (g i : Nat) (u v : Value) : Mod (fun q => q = g) W ((W.setCell ⟨g, i, none⟩ u).setCell ⟨g, i + 1, none⟩ v) :=
  Mod.setCell (p := ⟨g, i + 1, none⟩) (Mod.setCell (p := ⟨g, i, none⟩) (Mod.refl (fun q => q = g) W) (.inl rfl) _) (.inl rfl) _
theorem sep_l {W : World} {H r K d : Nat} {L : List Int} {a aw : Nat} {ps : List Pt} {Qv Q1 Pw Qw : Value} (y : Rx H W r K d L a aw ps Pw Qw) (sep : ∀ q, Qv.ownBlock = some q → Qw.ownBlock ≠ some q) (h : Q1.ownBlock = Qv.ownBlock ∨ ∃ b, Q1.ownBlock = some b ∧ W.heap.size ≤ b) : ∀ q, Q1.ownBlock = some q → Qw.ownBlock ≠ some q := fun q hq e => by
  rcases h with h | ⟨b, hb, hl⟩
  · exact sep q (h ▸ hq) e
  · have h1 := own_lt y.qr q e
    rw [hq] at hb
    have := Option.some.inj hb
    omega
theorem sep_r {W : World} {H g K d : Nat} {L : List Int} {a aw : Nat} {ps : List Pt} {Pv Qv Q2 Qw : Value} (x : Gx H W g K d L a aw ps Pv Qv) (sep : ∀ q, Qv.ownBlock = some q → Qw.ownBlock ≠ some q) (h : Q2.ownBlock = Qw.ownBlock ∨ ∃ b, Q2.ownBlock = some b ∧ W.heap.size ≤ b) : ∀ q, Qv.ownBlock = some q → Q2.ownBlock ≠ some q := fun q hq e => by
  rcases h with h | ⟨b, hb, hl⟩
  · exact sep q hq (h ▸ e)
  · have h1 := own_lt x.qr q hq
    rw [e] at hb
    have := Option.some.inj hb
    omega
theorem gs_low {W : World} {H0 H g K d : Nat} {L : List Int} {a aw : Nat} {ps : List Pt} {Pv Qv : Value} (x : Gx H W g K d L a aw ps Pv Qv) (h : H0 ≤ H) : ∀ q, (q = g ∨ some q = Qv.ownBlock) → H0 ≤ q := fun q hq => by
  rcases hq with rfl | hq
  · exact Nat.le_trans h x.ge
  · exact Nat.le_trans h (own_base x.qr q hq.symm)
theorem rs_low {W : World} {H0 H r K d : Nat} {L : List Int} {a aw : Nat} {ps : List Pt} {Pv Qv : Value} (x : Rx H W r K d L a aw ps Pv Qv) (h : H0 ≤ H) : ∀ q, (q = r ∨ some q = Qv.ownBlock) → H0 ≤ q := fun q hq => by
  rcases hq with rfl | hq
  · exact Nat.le_trans h x.ge
  · exact Nat.le_trans h (own_base x.qr q hq.symm)
/-- A copy of the parts, being overwritten. -/
def PartsAt (np gp : Nat) (s17 : Value) (r : Nat) (wr : World) : Prop :=
  ∃ (t : Nat) (cur : Array Value), s17 = .int .i64 (t : Int) ∧ t + r = np ∧ wr.heap[gp]? = some (.cells cur 33 (0, 0)) ∧ np * 2 ≤ cur.size
theorem own_parts {W : World} {B n c : Nat} {A : Option Addr} {xs : List Value} (h : W.ownsRow B 33 2 (.slice A n c) n xs) (hn : ¬ n = 0) : ∃ g, A = some ⟨g, 0, none⟩ ∧ B ≤ g ∧ ∃ cur, W.heap[g]? = some (.cells cur 33 (0, 0)) ∧ n * 2 ≤ cur.size := by
  rcases h.2 with ⟨e, hz⟩ | ⟨g, cap, cur, e, hg, hh, hle, _, hsz, _⟩
  · exact absurd hz hn
  · injection e with e1 e2 e3
    exact ⟨g, e1, hg, cur, hh, by omega⟩
/-- The second loop: i calls are done. -/
def PlAt (w0 : World) (H g r K d : Nat) (L : List Int) (Pv Pw : Value) (M : Nat) (k : Nat) (s15 : Value) (wr : World) : Prop :=
  ∃ (i a aw : Nat) (ps : List Pt) (Qv Qw : Value), s15 = .int .i64 (i : Int) ∧ i + k = M ∧ Tw w0 wr H g r K d L a aw ps Pv Qv Pw Qw
theorem nx_le' {k d n a m aw T : Nat} (h : nx k d n a m aw = T) (ha : a ≤ m) : a + T ≤ m := by
  unfold nx at h
  split at h <;> omega
set_option maxHeartbeats 8000000 in
set_option maxRecDepth 100000 in
theorem plays_calls (a0 a1 : Int) (A : Option Addr) (n c : Nat) (l : List Int) (A' : Option Addr) (n' c' : Nat) (l' : List Ak) (w : World) (hA : Arg icl w A n l) (hA' : Arg acl w A' n' l') (hc : n ≤ c) : Calls Try.prog 4 #[.int .i64 a0, .int .i64 a1, .slice A n c, .slice A' n' c'] w fun e w' => e = .returned (.bool true) ∧ Below w.heap.size w w' := by
  have HR0 := Aside0.mk (arg_rd hA)
  have HA' := Aside0.mk hA'
  have hn1 := hA.2.1
  have hn2 := hA'.2.1
  clear hA hA'
  go_enter Try.func4, Try.ntmps4
  go_upto_if 20 with fail
  go_cut [2] (fun s2 wc => s2 = .slice A (min n 14) c ∧ w = wc)
  case first =>
    by_cases h6 : 14 < n
    · have r1 : decide ((14 : Int) < (n : Int)) = true := decide_eq_true (by omega)
      obtain ⟨a, rfl, _⟩ := HR0.out.2.2 (by omega)
      have hm : min n 14 = 14 := by omega
      go_wp2
      go_meet
      case rel => exact ⟨by rw [hm], rfl⟩
    · have r1 : decide ((14 : Int) < (n : Int)) = false := decide_eq_false (by omega)
      have hm : min n 14 = n := by omega
      go_wp2
      go_meet
      case rel => exact ⟨by rw [hm], rfl⟩
  case rest =>
    obtain ⟨rfl, rfl⟩ := hcut
    obtain ⟨N, hN⟩ : ∃ N, N = min n 14 := ⟨_, rfl⟩
    rw [← hN]
    have hN14 : N ≤ 14 := by omega
    have hNn : N ≤ n := by omega
    have hNc : N ≤ c := by omega
    obtain ⟨L, hL⟩ : ∃ L, L = l.take N := ⟨_, rfl⟩
    have HR := Aside0.mk (show Rd w A N L by rw [hL]; exact HR0.out.take N hNn)
    clear HR0 hN hL
    go_upto_region 3 with fail
    go_cut [9] (fun s9 wc => wc.ownsRow w.heap.size 3 1 s9 N (L.map (Value.int .i64)) ∧ Below w.heap.size w wc)
    case first =>
      have HL := Aside0.mk (show (L.map (Value.int .i64)).length = N * 1 ∧ 0 + N ≤ maxLen ∧ (0 + N) * 8 ≤ 140737488355328 ∧ L.length = N by have := HR.out.1; rw [List.length_map]; unfold maxLen; omega)
      have HB2 := Aside0.mk (below_alloc (Below.refl w.heap.size w) (.cells #[] 3 (0, 0)))
      cases A with
      | none =>
        obtain rfl : N = 0 := by
          rcases Nat.eq_zero_or_pos N with h0 | h0
          · exact h0
          · obtain ⟨a, e, _⟩ := HR.out.2.2 h0
            cases e
        obtain rfl : L = [] := List.length_eq_zero_iff.1 HL.out.2.2.2
        go_wp2
        go_meet
        case rel => exact ⟨own_empty (Nat.le_refl _) (blk_new w _), HB2.out⟩
      | some a =>
        have HRR := Aside0.mk (show ∀ W, Below w.heap.size w W → ∀ j u, (L.map (Value.int .i64))[j]? = some u → W.cell? (a.add j) = some u from fun W hb j u hu => by
          rw [List.getElem?_map] at hu
          obtain ⟨x, hx, rfl⟩ := Option.map_eq_some_iff.1 hu
          exact rd_pair HR.out hb hx)
        go_wp2_with (refine ev_append (W := w.alloc (.cells #[] 3 (0, 0))) (.tmp 23) (.tmp 24) 26 3 rfl rfl w.heap.size _ 1 8 Try.underlying26 info3 rfl (by decide) _ 0 [] rfl (own_empty (Nat.le_refl _) (blk_new w _)) a N c (L.map (Value.int .i64)) rfl HL.out.1 (HRR.out _ HB2.out) (map_one L) HL.out.2.1 HL.out.2.2.1 HB2.out.size ?_; intro v2 w_2 ho2 hm2 _ hat2; rw [Nat.zero_add, List.nil_append] at ho2; have HO := Aside0.mk ho2; have HB_n := Aside0.mk (hm2.after HB2.out HB2.out.size (fun k hk => Nat.le_of_eq (Option.some.inj (show some w.heap.size = some k from hk.symm)))); clear HB2; have HB2 := HB_n; clear HB_n ho2 hm2 hat2)
        go_meet
        case rel => exact ⟨HO.out, HB2.out⟩
    case rest =>
      obtain ⟨ho, hb⟩ := hcut
      obtain ⟨A9, c9, rfl⟩ := own_slice ho
      obtain ⟨W1, hW1⟩ : ∃ W1, W1 = wc := ⟨_, rfl⟩
      rw [← hW1] at ho hb ⊢
      clear hW1
      have hc9 : N ≤ c9 := own_cap ho
      have HO := Aside0.mk ho
      have HB := Aside0.mk hb
      have HL := Aside0.mk (show N ≤ 1000 ∧ L.length ≤ 1000 ∧ N ≤ c ∧ N ≤ c9 ∧ L.length = N by have := HR.out.1; omega)
      clear ho hb
      by_cases hgood : Nums a0 a1 N ∧ ∀ i, Good L i
      · obtain ⟨⟨hk1, hk2, hd1, hd2, hn12⟩, hgd⟩ := hgood
        obtain ⟨K, rfl⟩ : ∃ K : Nat, a0 = (K : Int) := ⟨a0.toNat, by omega⟩
        obtain ⟨d, rfl⟩ : ∃ d : Nat, a1 = (d : Int) := ⟨a1.toNat, by omega⟩
        have HV := Aside0.mk (show 1 ≤ K ∧ K ≤ 8 ∧ d ≤ 12 ∧ N ≤ 12 by omega)
        have HGD := Aside0.mk (show (∀ (i : Nat) (x : Int), L[i]? = some x → 0 ≤ x ∧ x < 12 ∧ (L.take i).contains x = false) ∧ ∀ i, Good L i from ⟨fun i x hx => hgd i x hx, hgd⟩)
        have HS1 := Aside0.mk HB.out.size
        have HLT9 := Aside0.mk (own_lt HO.out)
        have HX := Aside0.mk (Below.refl W1.heap.size W1)
        clear hgd
        go_wp2_with (first | (go_at_call 7; (with_reducible refine (new_ok K d A9 N c9 L _ HV.out.1 HV.out.2.1 HV.out.2.2.1 HV.out.2.2.2 (own_rd (pw_own_below HO.out HX.out) HL.out.2.2.2.2 HL.out.1) HL.out.2.2.2.1 HGD.out.1 _ _ rfl rfl).mono ?_); rintro e_1 w_1 ⟨g, rfl, hg, hge, hb⟩; obtain ⟨Pv, Qv, hg⟩ := hg; have HG := Aside0.mk (hg.base HX.out.size); have HX_n := Aside0.mk (below_step HX.out hb); have HB_n := Aside0.mk (below_step HB.out hb); clear HX HB; have HX := HX_n; have HB := HB_n; clear HX_n HB_n hb hg hge) | (go_at_call 14; (with_reducible refine (rnew_ok K d A N c L _ HV.out.1 HV.out.2.1 HV.out.2.2.1 HV.out.2.2.2 (HR.out.below HB.out) HL.out.2.2.1 HGD.out.2 _ _ rfl rfl).mono ?_); rintro e_1 w_1 ⟨r, Pw, rfl, hy, hge, hb⟩; have HT := Aside0.mk (show Tw w w_1 W1.heap.size g r K d L 0 0 [] Pv Qv Pw (.slice none 0 0) from ⟨HG.out.far hb, hy.base HX.out.size, fun q _ e => (by cases e), below_step HB.out hb, HS1.out⟩); have HX_n := Aside0.mk (below_step HX.out hb); have HB_n := Aside0.mk (below_step HB.out hb); clear HX HB HG; have HX := HX_n; have HB := HB_n; clear HX_n HB_n hb hy hge) | (go_at_call 10; (with_reducible refine (same_calls A9 N c9 A N c L _ (own_rd (pw_own_below HO.out HX.out) HL.out.2.2.2.2 HL.out.1) (HR.out.below HB.out) HL.out.2.2.2.1 HL.out.2.2.1 HL.out.2.1).mono ?_); rintro e_1 w_1 ⟨rfl, hd⟩; have HX_n := Aside0.mk (below_step HX.out hd.below); have HB_n := Aside0.mk (below_step HB.out hd.below); have HT_n := Aside0.mk (HT.out.far hd.below); clear HX HB HT; have HX := HX_n; have HB := HB_n; have HT := HT_n; clear HX_n HB_n HT_n hd))
        have HO_n := Aside0.mk (pw_own_below HO.out HX.out)
        have HF := Aside0.mk (show OwnAt w A9 N c9 N (.int .i64 0) w_1 ∧ Tw w w_1 W1.heap.size g r K d L 0 0 [] Pv Qv Pw (.slice none 0 0) from ⟨⟨0, _, rfl, by omega, HO_n.out⟩, HT.out⟩)
        clear HO HO_n HB HX HT
        go_loopg [14] N (fun q s14 wr => OwnAt w A9 N c9 q s14 wr ∧ Tw w wr W1.heap.size g r K d L 0 0 [] Pv Qv Pw (.slice none 0 0))
        case atStart => exact HF.out
        case round =>
          clear HF
          obtain ⟨⟨i, vs, rfl, hir, ho⟩, ht⟩ := hrel
          have HO := Aside0.mk ho
          have HT := Aside0.mk ht
          clear ho ht
          by_cases hlt : i < N
          · have r2 : decide ((i : Int) < (N : Int)) = true := decide_eq_true (by omega)
            obtain ⟨g9, u, rfl, cu, fu⟩ := own_at HO.out hlt
            have HS := Aside0.mk (own_set1 HO.out i (.int .i64 (-5)))
            go_wp2
            go_roundg (N - (i + 1))
            case measure => omega
            case rel => exact ⟨⟨i + 1, _, by go_num, by omega, HS.out.1⟩, HT.out.low HS.out.2 (fun k hk => by rw [hk]; exact ⟨own_base HO.out g9 rfl, .inl (HLT9.out g9 rfl)⟩)⟩
          · obtain rfl : i = N := by omega
            have r2 : decide ((i : Int) < (i : Int)) = false := decide_eq_false (by omega)
            obtain ⟨H, hH⟩ : ∃ H, H = W1.heap.size := ⟨_, rfl⟩
            rw [← hH] at HT
            obtain ⟨M, hM⟩ : ∃ M, M = min n' 40 := ⟨_, rfl⟩
            have HPL0 := Aside0.mk (show PlAt w H g r K d L Pv Pw M M (.int .i64 0) wr from ⟨0, 0, 0, [], Qv, _, rfl, by omega, HT.out⟩)
            clear HT HO hH
            go_wp2
            go_loopg [15, 16, 17] M (fun q s15 s16 s17 wr => PlAt w H g r K d L Pv Pw M q s15 wr)
            case atStart => exact HPL0.out
            case round =>
              clear HPL0
              obtain ⟨j, a, aw, ps, Qv, Qw, rfl, hjk, ht⟩ := hrel
              have HT := Aside0.mk ht
              clear ht
              by_cases hj : j < M
              · have hjn : j < n' := by omega
                have hj40 : j < 40 := by omega
                have r3 : decide ((j : Int) < (n' : Int)) = true := decide_eq_true (by omega)
                have r4 : decide ((j : Int) < 40) = true := decide_eq_true (by omega)
                obtain ⟨x, b, o, rfl, hca⟩ := arg_ask HA'.out hjn
                have HC := Aside0.mk hca
                have ck := (hca _ HT.out.below).1
                obtain ⟨e1, he1⟩ : ∃ e1 : Bool, e1 = (x.kind == 1) := ⟨_, rfl⟩
                clear hca
                go_upto_if 84 with fail
                go_cut [] (fun wc => ∃ (a aw : Nat) (ps : List Pt) (Qv Qw : Value), Tw w wc H g r K d L a aw ps Pv Qv Pw Qw)
                case first =>
                  cases e1 with
                  | true =>
                    obtain ⟨T, hT⟩ : ∃ T, nx K d ps.length a L.length aw = T := ⟨_, rfl⟩
                    have hT' := nx_le' hT HT.out.x.wf.2.2.2.1
                    have hlen := HT.out.x.wf.2.2.1
                    have HTT := Aside0.mk hT
                    have HCL := Aside0.mk (show ((L.drop a).take T).length = T ∧ T ≤ 1000 by rw [List.length_take, List.length_drop]; omega)
                    have HCL2 := Aside0.mk (show ((L.drop a).take T).length ≤ 1000 by rw [HCL.out.1]; exact HCL.out.2)
                    have k1 := he1.symm
                    clear hT hT' hlen he1
                    go_wp2_with (first | (go_at_call 8; (with_reducible refine (next_x H g K d L a aw ps Pv Qv _ HT.out.x T HTT.out).mono ?_); rintro e_1 w_1 ⟨v, rfl, ho, hg, hm, _⟩; obtain ⟨Ava, cva, rfl⟩ := own_slice ho; have HV1 := Aside0.mk ho; have HY := Aside0.mk (HT.out.y.beside HT.out.x HT.out.sep (hm.mono (fun q hq => .inl hq))); have HG := Aside0.mk hg; have SEP := Aside0.mk HT.out.sep; have HB := Aside0.mk (hm.after HT.out.below HT.out.below.size (fun q hq => by rw [hq]; exact Nat.le_trans HT.out.hw HT.out.x.ge)); have HHW := Aside0.mk HT.out.hw; clear HT ho hg hm) | (go_at_call 15; (with_reducible refine (rnext_x H r K d L a aw ps Pw Qw _ HY.out T HTT.out).mono ?_); rintro e_1 w_1 ⟨v, rfl, ho, hy, hm⟩; obtain ⟨Avb, cvb, rfl⟩ := own_slice ho; have HV2 := Aside0.mk ho; have HV1_n := Aside0.mk (hm.own HV1.out (fun q hq e => by obtain ⟨cc, hc⟩ := own_typed HV1.out q hq; exact typ_ne hc HY.out.blk (by decide) e)); have HT := Aside0.mk (show Tw w w_1 H g r K d L (a + T) (aw + T) ps Pv Qv Pw Qw from ⟨HG.out.beside HY.out SEP.out (hm.mono (fun q hq => .inl hq)), hy, SEP.out, hm.after HB.out HB.out.size (fun q hq => by rw [hq]; exact Nat.le_trans HHW.out HY.out.ge), HHW.out⟩); clear HG HY SEP HB HHW HV1; have HV1 := HV1_n; clear HV1_n ho hy hm) | (go_at_call 10; (with_reducible refine (same_calls Ava T cva Avb T cvb ((L.drop a).take T) _ (own_rd HV1.out HCL.out.1 HCL.out.2) (own_rd HV2.out HCL.out.1 HCL.out.2) (own_cap HV1.out) (own_cap HV2.out) HCL2.out).mono ?_); rintro e_1 w_1 ⟨rfl, hd⟩; have HT_n := Aside0.mk (HT.out.far hd.below); clear HT HV1 HV2; have HT := HT_n; clear HT_n hd))
                    go_meet
                    case rel => exact ⟨_, _, _, _, _, HT.out⟩
                  | false =>
                    have k1 := he1.symm
                    clear he1
                    go_upto_region 18 with fail
                    obtain ⟨W6, hW6⟩ : ∃ W6, W6 = wr := ⟨_, rfl⟩
                    rw [← hW6] at HT ck ⊢
                    have hd6 := below_drew (Below.refl W6.heap.size W6)
                    have HGX := Aside0.mk (HT.out.x.far hd6)
                    have HRY := Aside0.mk (HT.out.y.far hd6)
                    have SEP := Aside0.mk HT.out.sep
                    have HB := Aside0.mk (below_step HT.out.below hd6)
                    have HHW := Aside0.mk HT.out.hw
                    clear hW6 hd6 HT ck k1
                    obtain ⟨xk, xa, xo, xd⟩ := x
                    by_cases hno : (L.take a).contains xa = false ∨ aw = 0
                    · have HNO := Aside0.mk hno
                      clear hno
                      go_region_held3 (fun W' => W'.cell? ⟨b, o + j * 4 + 1, none⟩ = some (.int .i64 xa) ∧ W'.cell? ⟨b, o + j * 4 + 2, none⟩ = some (.bool xo) ∧ W'.cell? ⟨b, o + j * 4 + 3, none⟩ = some (.string xd)) (exact ⟨(HC.out _ HB.out).2.1, (HC.out _ HB.out).2.2.1, (HC.out _ HB.out).2.2.2⟩) (first | (go_at_call 9; (with_reducible refine (got_no H g K d L a aw ps _ HGX.out.gt xa xo xd HNO.out).mono ?_); rintro e_1 w_1 ⟨rfl, hb⟩; have HGX_n := Aside0.mk (HGX.out.far hb); have HRY_n := Aside0.mk (HRY.out.far hb); have HB_n := Aside0.mk (below_step HB.out hb); clear HGX HRY HB; have HGX := HGX_n; have HRY := HRY_n; have HB := HB_n; clear HGX_n HRY_n HB_n hb) | (go_at_call 16; (with_reducible refine (rgot_no H r K d L a aw ps _ _ _ HRY.out xa xo xd HNO.out).mono ?_); rintro e_1 w_1 ⟨rfl, hb⟩; have HGX_n := Aside0.mk (HGX.out.far hb); have HRY_n := Aside0.mk (HRY.out.far hb); have HB_n := Aside0.mk (below_step HB.out hb); clear HGX HRY HB; have HGX := HGX_n; have HRY := HRY_n; have HB := HB_n; clear HGX_n HRY_n HB_n hb))
                      all_goals
                        go_wp2
                        go_meet
                        case rel => exact ⟨_, _, _, _, _, HGX.out, HRY.out, SEP.out, HB.out, HHW.out⟩
                    · have hin : (L.take a).contains xa = true := by
                        cases h : (L.take a).contains xa with
                        | true => rfl
                        | false => exact absurd (.inl h) hno
                      obtain ⟨aw1, rfl⟩ : ∃ aw1, aw = aw1 + 1 := ⟨aw - 1, by have : aw ≠ 0 := fun h => hno (.inr h); omega⟩
                      have HIN := Aside0.mk hin
                      clear hno hin
                      cases xo with
                      | false =>
                        go_region_held3 (fun W' => W'.cell? ⟨b, o + j * 4 + 1, none⟩ = some (.int .i64 xa) ∧ W'.cell? ⟨b, o + j * 4 + 2, none⟩ = some (.bool false) ∧ W'.cell? ⟨b, o + j * 4 + 3, none⟩ = some (.string xd)) (exact ⟨(HC.out _ HB.out).2.1, (HC.out _ HB.out).2.2.1, (HC.out _ HB.out).2.2.2⟩) (first | (go_at_call 9; (with_reducible refine (got_x_skip H g K d L a aw1 ps _ _ _ HGX.out xa false xd HIN.out (.inl rfl)).mono ?_); rintro e_1 w_1 ⟨rfl, hg, hm⟩; have HRY_n := Aside0.mk (HRY.out.beside HGX.out SEP.out (hm.mono (fun q hq => .inl hq))); have HB_n := Aside0.mk (hm.after HB.out HB.out.size (fun q hq => by rw [hq]; exact Nat.le_trans HHW.out HGX.out.ge)); clear HGX HRY HB; have HGX := Aside0.mk hg; have HRY := HRY_n; have HB := HB_n; clear HRY_n HB_n hg hm) | (go_at_call 16; (with_reducible refine (rgot_skip H r K d L a aw1 ps _ _ _ HRY.out xa false xd HIN.out (.inl rfl)).mono ?_); rintro e_1 w_1 ⟨rfl, hg, hm⟩; have HGX_n := Aside0.mk (HGX.out.beside HRY.out SEP.out (hm.mono (fun q hq => .inl hq))); have HB_n := Aside0.mk (hm.after HB.out HB.out.size (fun q hq => by rw [hq]; exact Nat.le_trans HHW.out HRY.out.ge)); clear HGX HRY HB; have HRY := Aside0.mk hg; have HGX := HGX_n; have HB := HB_n; clear HGX_n HB_n hg hm))
                        all_goals
                          go_wp2
                          go_meet
                          case rel => exact ⟨_, _, _, _, _, HGX.out, HRY.out, SEP.out, HB.out, HHW.out⟩
                      | true =>
                        by_cases hK : ps.length < K
                        · have HNK := Aside0.mk hK
                          clear hK
                          go_region_held3 (fun W' => W'.cell? ⟨b, o + j * 4 + 1, none⟩ = some (.int .i64 xa) ∧ W'.cell? ⟨b, o + j * 4 + 2, none⟩ = some (.bool true) ∧ W'.cell? ⟨b, o + j * 4 + 3, none⟩ = some (.string xd)) (exact ⟨(HC.out _ HB.out).2.1, (HC.out _ HB.out).2.2.1, (HC.out _ HB.out).2.2.2⟩) (first | (go_at_call 9; (with_reducible refine (got_x_add H g K d L a aw1 ps _ _ _ HGX.out xa xd HIN.out HNK.out).mono ?_); rintro e_1 w_1 ⟨rfl, Q1, hg, hq, hm⟩; have HRY_n := Aside0.mk (HRY.out.beside HGX.out SEP.out hm); have SEP_n := Aside0.mk (sep_l HRY.out SEP.out hq); have HB_n := Aside0.mk (hm.after HB.out HB.out.size (gs_low HGX.out HHW.out)); clear HGX HRY SEP HB; have HGX := Aside0.mk hg; have HRY := HRY_n; have SEP := SEP_n; have HB := HB_n; clear HRY_n SEP_n HB_n hg hq hm) | (go_at_call 16; (with_reducible refine (rgot_add H r K d L a aw1 ps _ _ _ HRY.out xa xd HIN.out HNK.out).mono ?_); rintro e_1 w_1 ⟨rfl, Q2, hg, hq, hm⟩; have HGX_n := Aside0.mk (HGX.out.beside HRY.out SEP.out hm); have SEP_n := Aside0.mk (sep_r HGX.out SEP.out hq); have HB_n := Aside0.mk (hm.after HB.out HB.out.size (rs_low HRY.out HHW.out)); clear HGX HRY SEP HB; have HRY := Aside0.mk hg; have HGX := HGX_n; have SEP := SEP_n; have HB := HB_n; clear HGX_n SEP_n HB_n hg hq hm))
                          all_goals
                            go_wp2
                            go_meet
                            case rel => exact ⟨_, _, _, _, _, HGX.out, HRY.out, SEP.out, HB.out, HHW.out⟩
                        · have HNK := Aside0.mk (show K ≤ ps.length by omega)
                          clear hK
                          go_region_held3 (fun W' => W'.cell? ⟨b, o + j * 4 + 1, none⟩ = some (.int .i64 xa) ∧ W'.cell? ⟨b, o + j * 4 + 2, none⟩ = some (.bool true) ∧ W'.cell? ⟨b, o + j * 4 + 3, none⟩ = some (.string xd)) (exact ⟨(HC.out _ HB.out).2.1, (HC.out _ HB.out).2.2.1, (HC.out _ HB.out).2.2.2⟩) (first | (go_at_call 9; (with_reducible refine (got_x_skip H g K d L a aw1 ps _ _ _ HGX.out xa true xd HIN.out (.inr HNK.out)).mono ?_); rintro e_1 w_1 ⟨rfl, hg, hm⟩; have HRY_n := Aside0.mk (HRY.out.beside HGX.out SEP.out (hm.mono (fun q hq => .inl hq))); have HB_n := Aside0.mk (hm.after HB.out HB.out.size (fun q hq => by rw [hq]; exact Nat.le_trans HHW.out HGX.out.ge)); clear HGX HRY HB; have HGX := Aside0.mk hg; have HRY := HRY_n; have HB := HB_n; clear HRY_n HB_n hg hm) | (go_at_call 16; (with_reducible refine (rgot_skip H r K d L a aw1 ps _ _ _ HRY.out xa true xd HIN.out (.inr HNK.out)).mono ?_); rintro e_1 w_1 ⟨rfl, hg, hm⟩; have HGX_n := Aside0.mk (HGX.out.beside HRY.out SEP.out (hm.mono (fun q hq => .inl hq))); have HB_n := Aside0.mk (hm.after HB.out HB.out.size (fun q hq => by rw [hq]; exact Nat.le_trans HHW.out HRY.out.ge)); clear HGX HRY HB; have HRY := Aside0.mk hg; have HGX := HGX_n; have HB := HB_n; clear HGX_n HB_n hg hm))
                          all_goals
                            go_wp2
                            go_meet
                            case rel => exact ⟨_, _, _, _, _, HGX.out, HRY.out, SEP.out, HB.out, HHW.out⟩
                case rest =>
                  obtain ⟨a, aw, ps, Qv, Qw, ht⟩ := hcut
                  clear HT he1 ck
                  obtain ⟨Aw, cw, rfl⟩ := own_slice ht.y.qr
                  obtain ⟨W5, hW5⟩ : ∃ W5, W5 = wc := ⟨_, rfl⟩
                  rw [← hW5] at ht ⊢
                  obtain ⟨sv, hsv⟩ : ∃ sv, st K ps.length a L.length aw = sv := ⟨_, rfl⟩
                  have HSV := Aside0.mk hsv
                  have HT := Aside0.mk ht
                  have HPL := Aside0.mk (show ps.length ≤ 1000 by have := ht.x.wf.2.2.2.2.2; have := ht.x.wf.1; omega)
                  have HLT := Aside0.mk (And.intro ht.x.lt ht.y.lt)
                  have HW5 := Aside0.mk ht.below.size
                  have e5 : (sv != sv) = false := by simp
                  clear hsv ht hW5
                  go_wp2_with (first | (go_at_call 13; (with_reducible refine (parts_calls H g K d L a aw ps _ HT.out.x.gt).mono ?_); rintro e_1 w_1 ⟨v, rfl, ho, hb⟩; obtain ⟨Ap, cp, rfl⟩ := own_slice ho; have HP := Aside0.mk ho; have HT_n := Aside0.mk (HT.out.far hb); clear HT; have HT := HT_n; clear HT_n ho hb) | (go_at_call 11; (with_reducible refine (state_xr H g K d L a aw ps Pv Qv _ HT.out.x sv HSV.out).mono ?_); rintro e_1 w_1 ⟨rfl, hb⟩; have HT_n := Aside0.mk (HT.out.far hb); have HP_n := Aside0.mk (pw_own_below HP.out hb); clear HT HP; have HT := HT_n; have HP := HP_n; clear HT_n HP_n hb) | (go_at_call 17; (with_reducible refine (rstate_xr H r K d L a aw ps Pw (.slice Aw ps.length cw) _ HT.out.y sv HSV.out).mono ?_); rintro e_1 w_1 ⟨rfl, hb⟩; have HT_n := Aside0.mk (HT.out.far hb); have HP_n := Aside0.mk (pw_own_below HP.out hb); clear HT HP; have HT := HT_n; have HP := HP_n; have cq5 := HT_n.out.y.cells.2.2.2.2.2; clear HT_n HP_n hb) | (go_at_call 12; (with_reducible refine (sameP_calls Ap ps.length cp Aw ps.length cw ps _ (own_rp HP.out rfl HPL.out) (own_rp HT.out.y.qr rfl HPL.out) (own_cap HP.out) (own_cap HT.out.y.qr) HPL.out).mono ?_); rintro e_1 w_1 ⟨rfl, hd⟩; have HT_n := Aside0.mk (HT.out.far hd.below); have HP_n := Aside0.mk (pw_own_below HP.out hd.below); clear HT HP cq5; have HT := HT_n; have HP := HP_n; clear HT_n HP_n hd))
                  obtain ⟨np, hnp⟩ : ∃ np, np = ps.length := ⟨_, rfl⟩
                  have hnp12 : np ≤ 1000 := by rw [hnp]; exact HPL.out
                  rw [← hnp] at HP ⊢
                  have HNP := Aside0.mk hnp
                  clear hnp
                  have HBP := Aside0.mk (show Tw w w_1 H g r K d L a aw ps Pv Qv Pw (.slice Aw ps.length cw) from HT.out)
                  clear HT HSV
                  by_cases hz : np = 0
                  · subst hz
                    go_loopg [17] 0 (fun q s17 wr => s17 = .int .i64 0 ∧ Tw w wr H g r K d L a aw ps Pv Qv Pw (.slice Aw ps.length cw))
                    case atStart => exact ⟨rfl, HBP.out⟩
                    case round =>
                      obtain ⟨rfl, ht⟩ := hrel
                      have HT := Aside0.mk ht
                      clear ht HBP
                      go_wp2
                      go_roundg (M - (j + 1))
                      case measure => omega
                      case rel => exact ⟨j + 1, a, aw, ps, Qv, _, by go_num, by omega, HT.out⟩
                  · obtain ⟨gp, rfl, hgp, cur, hcur, hsz⟩ := own_parts HP.out hz
                    have HL3 := Aside0.mk (show PartsAt np gp (.int .i64 0) np w_1 ∧ Tw w w_1 H g r K d L a aw ps Pv Qv Pw (.slice Aw ps.length cw) from ⟨⟨0, cur, rfl, by omega, hcur, hsz⟩, HBP.out⟩)
                    have HGP := Aside0.mk (show w.heap.size ≤ gp ∧ gp ≠ g ∧ gp ≠ r ∧ Pv.ownBlock ≠ some gp ∧ Qv.ownBlock ≠ some gp ∧ Pw.ownBlock ≠ some gp ∧ (Value.slice Aw ps.length cw).ownBlock ≠ some gp from by
                      obtain ⟨⟨x1, x2, x3⟩, y1, y2, y3⟩ := HLT.out
                      refine ⟨Nat.le_trans HW5.out hgp, by omega, by omega, fun e => ?_, fun e => ?_, fun e => ?_, fun e => ?_⟩
                      · have := x2 _ e; omega
                      · have := x3 _ e; omega
                      · have := y2 _ e; omega
                      · have := y3 _ e; omega)
                    clear HBP HP hcur hsz hgp
                    go_loopg [17] np (fun q s17 wr => PartsAt np gp s17 q wr ∧ Tw w wr H g r K d L a aw ps Pv Qv Pw (.slice Aw ps.length cw))
                    case atStart => exact HL3.out
                    case round =>
                      clear HL3
                      obtain ⟨⟨t, cur2, rfl, htq, hcur, hsz⟩, ht⟩ := hrel
                      have HT := Aside0.mk ht
                      have HQ := Aside0.mk hcur
                      have HZ := Aside0.mk hsz
                      clear ht hcur hsz
                      by_cases htn : t < np
                      · have r5 : decide ((t : Int) < (np : Int)) = true := decide_eq_true (by omega)
                        obtain ⟨u1, hu1⟩ : ∃ u, cur2[t * 2]? = some u := ⟨_, Array.getElem?_eq_getElem (by have := HZ.out; omega)⟩
                        obtain ⟨u2, hu2⟩ : ∃ u, cur2[t * 2 + 1]? = some u := ⟨_, Array.getElem?_eq_getElem (by have := HZ.out; omega)⟩
                        have b1 := (blk_cell HQ.out (t * 2)).trans hu1
                        have b2 := (blk_cell HQ.out (t * 2 + 1)).trans hu2
                        have f1 := blk_frozen HQ.out (t * 2)
                        have f2 := blk_frozen HQ.out (t * 2 + 1)
                        have HM2 := Aside0.mk (mod2 wr gp (t * 2) (.int .i64 (-1)) (.string ⟨#[]⟩))
                        have HT_n := Aside0.mk (HT.out.low HM2.out (fun k hk => by rw [hk]; exact ⟨HGP.out.1, .inr HGP.out.2⟩))
                        have HQ_n := Aside0.mk (blk_put (blk_put HQ.out (t * 2) (.int .i64 (-1)) rfl) (t * 2 + 1) (.string ⟨#[]⟩) rfl)
                        clear HT HQ HM2 hu1 hu2
                        go_wp2
                        go_roundg (np - (t + 1))
                        case measure => omega
                        case rel => exact ⟨⟨t + 1, _, by go_num, by omega, HQ_n.out, by rw [Array.size_setIfInBounds, Array.size_setIfInBounds]; exact HZ.out⟩, HT_n.out⟩
                      · obtain rfl : t = np := by omega
                        have r5 : decide ((t : Int) < (t : Int)) = false := decide_eq_false (by omega)
                        go_wp2
                        go_roundg (M - (j + 1))
                        case measure => omega
                        case rel => exact ⟨j + 1, a, aw, ps, Qv, _, by go_num, by omega, HT.out⟩
              · obtain rfl : j = M := by omega
                have HB := Aside0.mk HT.out.below
                by_cases hjn : j < n'
                · have r3 : decide ((j : Int) < (n' : Int)) = true := decide_eq_true (by omega)
                  have hj40 : ¬ j < 40 := by omega
                  have r4 : decide ((j : Int) < 40) = false := decide_eq_false (by omega)
                  go_wp2_with (go_at_call 3; (with_reducible refine (runs_calls _).mono ?_); rintro e_1 w_1 ⟨rfl, hb⟩; have HB_n := Aside0.mk (below_step HB.out hb); clear HB; have HB := HB_n; clear HB_n hb)
                  go_ret
                  exact ⟨rfl, HB.out⟩
                · have r3 : decide ((j : Int) < (n' : Int)) = false := decide_eq_false (by omega)
                  go_wp2_with (go_at_call 3; (with_reducible refine (runs_calls _).mono ?_); rintro e_1 w_1 ⟨rfl, hb⟩; have HB_n := Aside0.mk (below_step HB.out hb); clear HB; have HB := HB_n; clear HB_n hb)
                  go_ret
                  exact ⟨rfl, HB.out⟩
      · obtain ⟨h7, h14⟩ := both_bad a0 a1 A N c A9 c9 L W1 (HR.out.below HB.out) (own_rd HO.out HR.out.1 HL.out.1) hc9 hgood
        have H7 := Aside0.mk h7
        have H14 := Aside0.mk h14
        have HX := Aside0.mk (Below.refl W1.heap.size W1)
        clear h7 h14 hgood
        go_wp2_with (first | (go_at_call 7; (with_reducible refine (H7.out _ HX.out).mono ?_); rintro e_1 w_1 ⟨rfl, hb⟩; have HX_n := Aside0.mk (below_step HX.out hb); have HB_n := Aside0.mk (below_step HB.out hb); clear HX HB; have HX := HX_n; have HB := HB_n; clear HX_n HB_n hb) | (go_at_call 14; (with_reducible refine (H14.out _ HX.out).mono ?_); rintro e_1 w_1 ⟨rfl, hb⟩; have HX_n := Aside0.mk (below_step HX.out hb); have HB_n := Aside0.mk (below_step HB.out hb); clear HX HB; have HX := HX_n; have HB := HB_n; clear HX_n HB_n hb) | (go_at_call 10; (with_reducible refine (same_calls A9 N c9 A N c L _ (own_rd (pw_own_below HO.out HX.out) HL.out.2.2.2.2 HL.out.1) (HR.out.below HB.out) HL.out.2.2.2.1 HL.out.2.2.1 HL.out.2.1).mono ?_); rintro e_1 w_1 ⟨rfl, hd⟩; have HX_n := Aside0.mk (below_step HX.out hd.below); have HB_n := Aside0.mk (below_step HB.out hd.below); clear HX HB; have HX := HX_n; have HB := HB_n; clear HX_n HB_n hd))
        have HO_n := Aside0.mk (pw_own_below HO.out HX.out)
        have HF := Aside0.mk (show OwnAt w A9 N c9 N (.int .i64 0) w_1 ∧ Below w.heap.size w w_1 from ⟨⟨0, _, rfl, by omega, HO_n.out⟩, HB.out⟩)
        clear HO HO_n HB HX H7 H14
        go_loopg [14] N (fun r s14 wr => OwnAt w A9 N c9 r s14 wr ∧ Below w.heap.size w wr)
        case atStart => exact HF.out
        case round =>
          clear HF
          obtain ⟨⟨i, vs, rfl, hir, ho⟩, hb⟩ := hrel
          have HO := Aside0.mk ho
          have HB := Aside0.mk hb
          clear ho hb
          by_cases hlt : i < N
          · have r2 : decide ((i : Int) < (N : Int)) = true := decide_eq_true (by omega)
            obtain ⟨g9, u, rfl, cu, fu⟩ := own_at HO.out hlt
            have HS := Aside0.mk (own_set1 HO.out i (.int .i64 (-5)))
            go_wp2
            go_roundg (N - (i + 1))
            case measure => omega
            case rel => exact ⟨⟨i + 1, _, by go_num, by omega, HS.out.1⟩, HS.out.2.after HB.out HB.out.size (fun k hk => by rw [hk]; exact own_base HO.out g9 rfl)⟩
          · obtain rfl : i = N := by omega
            have r2 : decide ((i : Int) < (i : Int)) = false := decide_eq_false (by omega)
            go_wp2
            have HB5 := Aside0.mk HB.out
            go_loopg [15, 16, 17] 0 (fun r s15 s16 s17 wr => s15 = .int .i64 0 ∧ Below w.heap.size w wr)
            case atStart => exact ⟨rfl, HB5.out⟩
            case round =>
              obtain ⟨rfl, hb⟩ := hrel
              have HB := Aside0.mk hb
              clear hb
              by_cases h0 : 0 < n'
              · have r3 : decide ((0 : Int) < (n' : Int)) = true := decide_eq_true (by omega)
                go_wp2_with (go_at_call 3; (with_reducible refine (runs_calls _).mono ?_); rintro e_1 w_1 ⟨rfl, hb⟩; have HB_n := Aside0.mk (below_step HB.out hb); clear HB; have HB := HB_n; clear HB_n hb)
                go_ret
                exact ⟨rfl, HB.out⟩
              · obtain rfl : n' = 0 := by omega
                go_wp2_with (go_at_call 3; (with_reducible refine (runs_calls _).mono ?_); rintro e_1 w_1 ⟨rfl, hb⟩; have HB_n := Aside0.mk (below_step HB.out hb); clear HB; have HB := HB_n; clear HB_n hb)
                go_ret
                exact ⟨rfl, HB.out⟩
end Go.Proofs.Ytnndpjicbcailaa.Ga
