/- MailDrains answers true. -/
import Derived.Test.YtnfnbcbbiaheeaaMl13
import Derived.BigQuiet
import Derived.StillTailTactics
import Derived.Deep.RegionHeld3
import Derived.Deep.CutRange
namespace Go.Proofs.Ytnfnbcbbiaheeaa.Ml
open Go.RowKit Go.Proofs.YtnfnbcbbiaheeaaW.PrintWords Go.Proofs.YtnfnbcbbiaheeaaW.PrintLast Go.Proofs.YtnfnbcbbiaheeaaW.PrintMore Go.Proofs.Ytnfnbcbbiaheeaa.Lib Go.Proofs.Ytnfnbcbbiaheeaa.Open
theorem info31 : (Try.prog.info? 31).map (fun i => (i.zero, i.size, i.bytes)) = some (some (.slice none 0 0), 1, 24) := by kernel_rfl
/-- The first loop: i rows are laid. -/
def L1 (w0 : World) (N : Nat) (k : Nat) (s5 s6 s7 : Value) (wr : World) : Prop :=
  ∃ (i : Nat) (bs : List (Option (Nat × Nat))) (ls : List Rw), s7 = .int .i64 (i : Int) ∧ i + k = N ∧ Dl w0 wr s5 bs (fr ls) s6 ls (.slice none 0 0) [] ∧ ls.length = i ∧ ∀ r ∈ ls, Rk w0 r ∧ r.l.length ≤ 8
theorem mem_add {ls : List Rw} {r : Rw} {p : Rw → Prop} (h : ∀ r ∈ ls, p r) (hr : p r) : ∀ q ∈ ls ++ [r], p q := fun q hq => by
  rcases List.mem_append.1 hq with h1 | h1
  · exact h q h1
  · obtain rfl := List.mem_singleton.1 h1
    exact hr
/-- The second loop. -/
def L2 (w0 : World) (v5 : Value) (bs : List (Option (Nat × Nat))) (xss : List (List Fr)) (v6 : Value) (n : Int) (T nb : Nat) (F : List (List Fr) × List Fr) (k : Nat) (s10 s11 : Value) (wr : World) : Prop :=
  ∃ (ls : List Rw) (want : List Int) (mv : Bool), s11 = .bool mv ∧ Dl w0 wr v5 bs xss v6 ls s10 want ∧ want.length + tot (fr ls) = T ∧ ls.length = nb ∧ (∀ r ∈ ls, Rk w0 r) ∧ (mv = true → drain n k (fr ls) (want.map frn) = F ∧ tot (fr ls) < k) ∧ (mv = false → F = (fr ls, want.map frn))
/-- A pass. -/
def L3 (w0 : World) (v5 : Value) (bs : List (Option (Nat × Nat))) (xss : List (List Fr)) (v6 : Value) (n : Int) (T nb o0 : Nat) (P : List (List Fr) × List Fr) (k : Nat) (s10 s11 s12 : Value) (wr : World) : Prop :=
  ∃ (i : Nat) (ls : List Rw) (want : List Int) (tk : Bool), s12 = .int .i64 (i : Int) ∧ s11 = .bool tk ∧ tk = decide (want.length ≠ o0) ∧ i + k = nb ∧ Dl w0 wr v5 bs xss v6 ls s10 want ∧ want.length + tot (fr ls) = T ∧ ls.length = nb ∧ (∀ r ∈ ls, Rk w0 r) ∧ (((want.length : Int) < n ∧ At n i (fr ls) (want.map frn) P) ∨ (n ≤ (want.length : Int) ∧ P = (fr ls, want.map frn))) ∧ o0 ≤ want.length
theorem Dl.row' {w0 W : World} {v5 v10 : Value} {bs : List (Option (Nat × Nat))} {xss : List (List Fr)} {ls : List Rw} {want : List Int} {g n c : Nat} (h : Dl w0 W v5 bs xss (.slice (some ⟨g, 0, none⟩) n c) ls v10 want) {i : Nat} {r : Rw} (hi : ls[i]? = some r) : W.cell? ⟨g, i, none⟩ = some (rv r) ∧ W.frozen? ⟨g, i, none⟩ = false := by
  obtain ⟨g', e, _, h1, h2⟩ := h.row hi
  obtain rfl : g = g' := by injection e with e; injection e
  exact ⟨h1, h2⟩
/-- What a taken head leaves. -/
theorem pass_step {n : Int} {j : Nat} {ls : List Rw} {want : List Int} {P : List (List Fr) × List Fr} {A : Option Addr} {rn rc : Nat} {y : Int} {ys : List Int} {r' : Rw} (hlt : (want.length : Int) < n) (h : ((want.length : Int) < n ∧ At n j (fr ls) (want.map frn) P) ∨ (n ≤ (want.length : Int) ∧ P = (fr ls, want.map frn))) (hr : ls[j]? = some ⟨A, rn, rc, y :: ys⟩) (hr' : r'.l = ys) :
    (((want ++ [y]).length : Int) < n ∧ At n (j + 1) (fr (ls.set j r')) ((want ++ [y]).map frn) P) ∨ (n ≤ ((want ++ [y]).length : Int) ∧ P = (fr (ls.set j r'), (want ++ [y]).map frn)) := by
  rcases h with ⟨_, h⟩ | ⟨h, _⟩
  · have hx : (fr ls)[j]? = some (frn y :: ys.map frn) := fr_at hr
    have hl : (want.map frn).length = want.length := List.length_map _
    rw [fr_set, hr', List.map_append, List.length_append, List.length_singleton]
    by_cases hf : (((want.map frn).length + 1 : Nat) : Int) = n
    · exact .inr ⟨by rw [hl] at hf; omega, h.full hx hf⟩
    · exact .inl ⟨by rw [hl] at hf; omega, h.more hx hf⟩
  · omega
/-- The third loop. -/
def L4 (w0 : World) (v5 : Value) (bs : List (Option (Nat × Nat))) (v6 : Value) (ls : List Rw) (v10 : Value) (want : List Int) (G : Int × Fr × Bool) (nb : Nat) (k : Nat) (s13 s14 : Value) (wr : World) : Prop :=
  ∃ i : Nat, s14 = .int .i64 (i : Int) ∧ i + k = nb ∧ Dl w0 wr v5 bs (fr ls) v6 ls v10 want ∧ ((s13 = .int .i64 (-1) ∧ fst i ((fr ls).drop i) = G) ∨ ∃ (p : Nat) (r : Rw) (y : Int) (ys : List Int), s13 = .int .i64 (p : Int) ∧ ls[p]? = some r ∧ r.l = y :: ys ∧ G = ((p : Int), frn y, true))
theorem len_n (g c : Nat) (xs : List Fr) (k : Nat) (w : World) (hI : Bx w g c 9 xs) (hk : xs.length = k) : Calls Try.prog 26 #[.pointer (some ⟨g, 0, none⟩)] w fun e w' => e = .returned (.int .i64 (k : Int)) ∧ Below w.heap.size w w' := by
  subst hk
  exact len_calls g c 9 xs w hI
theorem pass_tot {j : Nat} {ls : List Rw} {want : List Int} {T : Nat} {A : Option Addr} {rn rc : Nat} {y : Int} {ys : List Int} {r' : Rw} (h : want.length + tot (fr ls) = T) (hr : ls[j]? = some ⟨A, rn, rc, y :: ys⟩) (hr' : r'.l = ys) : (want ++ [y]).length + tot (fr (ls.set j r')) = T := by
  have hx : (fr ls)[j]? = some (frn y :: ys.map frn) := fr_at hr
  have := tot_set hx
  rw [fr_set, hr', List.length_append, List.length_singleton]
  omega
theorem mem_set {ls : List Rw} {r : Rw} {i : Nat} {p : Rw → Prop} (h : ∀ r ∈ ls, p r) (hr : p r) : ∀ q ∈ ls.set i r, p q := fun q hq => by
  rcases List.mem_or_eq_of_mem_set hq with h1 | h1
  · exact h q h1
  · rw [h1]; exact hr
set_option maxHeartbeats 8000000 in
set_option maxRecDepth 100000 in
theorem drains_calls (a0 : Int) (A : Option Addr) (n cap : Nat) (rs : List Rw) (w : World) (hA : Rows w A n rs) (hcap : n ≤ cap) : Calls Try.prog 9 #[.int .i64 a0, .slice A n cap] w fun e w' => e = .returned (.bool true) ∧ Below w.heap.size w w' := by
  obtain ⟨x, hx1, hx2, hxc⟩ := within_calls a0 (-2) 30 (by decide) (by decide) (by decide)
  have HXc := Aside0.mk hxc
  have HA := Aside0.mk hA
  have hn1 := hA.2.1
  clear hxc
  go_enter Try.func9, Try.ntmps9
  go_upto_if 20 with fail
  go_cut [1] (fun s1 wc => s1 = .slice A (min n 6) cap ∧ w = wc)
  case first =>
    by_cases h6 : 6 < n
    · have r1 : decide ((6 : Int) < (n : Int)) = true := decide_eq_true (by omega)
      obtain ⟨b, o, rfl, _⟩ := hA.2.2.1 (by omega)
      have hm : min n 6 = 6 := by omega
      clear hA
      go_wp2
      go_meet
      case rel => exact ⟨by rw [hm], rfl⟩
    · have r1 : decide ((6 : Int) < (n : Int)) = false := decide_eq_false (by omega)
      have hm : min n 6 = n := by omega
      clear hA
      go_wp2
      go_meet
      case rel => exact ⟨by rw [hm], rfl⟩
  case rest =>
    obtain ⟨rfl, rfl⟩ := hcut
    have HA2 := Aside0.mk (hA.take (min n 6) (by omega))
    obtain ⟨N, hN⟩ : ∃ N, N = min n 6 := ⟨_, rfl⟩
    have hN6 : N ≤ 6 := by omega
    rw [← hN] at HA2
    rw [← hN]
    clear HA hA hN
    have HF := Aside0.mk (show L1 w N N (.slice none 0 0) (.slice none 0 0) (.int .i64 0) w from ⟨0, [], [], rfl, by omega, ⟨Bl.nil (Below.refl _ _), own_nil _ _ _ _, own_nil _ _ _ _⟩, rfl, fun r hr => by cases hr⟩)
    go_wp2
    go_loopg [5, 6, 7, 8] N (fun k s5 s6 s7 s8 wr => L1 w N k s5 s6 s7 wr)
    case atStart => exact HF.out
    case round =>
      clear HF
      obtain ⟨i, bs, ls, rfl, hik, hd, hll, hrk⟩ := hrel
      have hbl : bs.length = i := by rw [← hd.bl.bxs.len, fr_length, hll]
      have BL := Aside0.mk (show bs.length + 1 ≤ maxLen ∧ (bs.length + 1) * 8 ≤ 140737488355328 ∧ ls.length + 1 ≤ maxLen ∧ (ls.length + 1) * 24 ≤ 140737488355328 by unfold maxLen; omega)
      have BLL := Aside0.mk (And.intro hbl hll)
      obtain ⟨A5, c5, rfl⟩ := own_slice hd.bl.own
      obtain ⟨A6, c6, rfl⟩ := own_slice hd.left
      have HD := Aside0.mk hd
      have HRK0 := Aside0.mk hrk
      clear hd hbl hrk
      by_cases hlt : i < N
      · clear hll
        obtain ⟨r0, b, o, rfl, _, hr0, hcell⟩ := HA2.out.at_ hlt
        have hc := hcell _ HD.out.below
        have r1 : decide ((i : Int) < (N : Int)) = true := decide_eq_true (by omega)
        have HR0 := Aside0.mk hr0
        clear hcell hr0
        simp only [rv] at hc
        go_upto_if 35 with fail
        go_cut [8] (fun s8 wc2 => ∃ r : Rw, s8 = rv r ∧ Rk w r ∧ r.l.length ≤ 8 ∧ wr = wc2)
        case first =>
          by_cases h8 : 8 < r0.n
          · have r2 : decide ((8 : Int) < (r0.n : Int)) = true := decide_eq_true (by omega)
            obtain ⟨b2, o2, e, _⟩ := HR0.out.1.2.2 (by omega)
            have hle := HR0.out.2
            rw [e]
            go_wp2
            go_meet
            case rel => exact ⟨⟨r0.A, 8, r0.c, r0.l.take 8⟩, by rw [e]; rfl, HR0.out.take 8 (by omega), by show (r0.l.take 8).length ≤ 8; rw [List.length_take]; omega, rfl⟩
          · have r2 : decide ((8 : Int) < (r0.n : Int)) = false := decide_eq_false (by omega)
            go_wp2
            go_meet
            case rel => exact ⟨r0, rfl, HR0.out, by have := HR0.out.1.1; omega, rfl⟩
        case rest =>
          obtain ⟨⟨rA, rn, rcp, rl⟩, rfl, hrk, hr8, rfl⟩ := hcut
          have HRK := Aside0.mk hrk
          have R9 := Aside0.mk (show rn ≤ 9 by have h1 : rl.length = rn := hrk.1.1; have h2 : rl.length ≤ 8 := hr8; omega)
          have R8 := Aside0.mk (show rl.length ≤ 8 from hr8)
          have E9 := Aside0.mk (show (9 : Int) = ((9 : Nat) : Int) from rfl)
          simp only [rv]
          clear hr8
          cases rl with
          | nil =>
            obtain rfl : 0 = rn := hrk.1.1
            clear hrk
            have HRA := Aside0.mk (show Arg icl w rA 0 [] from HRK.out.1)
            go_wp2_with (first | (go_at_call 20; (with_reducible refine (filled_calls 9 rA 0 rcp [] _ (HRA.out.below HD.out.below) (by decide) (by decide) R9.out _ E9.out).mono ?_); rintro e_1 w_1 ⟨g, c, rfl, hx, hg, hc, hb⟩; have HX := Aside0.mk (show Bx w_1 g c 9 (([] : List Int).map frn) from hx); have HC := Aside0.mk (show (∀ k, Chs bs k → k < c) ∧ w.heap.size ≤ c from ⟨fun k hk => Nat.lt_of_lt_of_le (HD.out.bl.bxs.lt k hk) hc, Nat.le_trans HD.out.size hc⟩); have HD_n := Aside0.mk (HD.out.far hb); clear HD; have HD := HD_n; clear HD_n hx hg hc hb) | (refine ev_append (.tmp 53) (.tmp 56) 61 40 rfl rfl w.heap.size _ 1 8 Try.underlying61 info40 rfl (by decide) _ bs.length (bs.map pv) rfl (HD.out.new _).bl.own ⟨_, 0, none⟩ 1 1 [.pointer (some ⟨g, 0, none⟩)] rfl rfl (fun j u hu => by rw [add_plain]; exact (blk_cell (blk_new _ _) j).trans (by simpa using hu)) (by simp [Value.oneCell']) BL.out.1 BL.out.2.1 (HD.out.new _).size ?_; intro v2 w_2 ho2 hm2 _ hat2; have HD_n := Aside0.mk ((HD.out.new _).box (HX.out.below (below_alloc (Below.refl _ _) _)) HC.out.1 HC.out.2 ho2 hm2); clear HD; have HD := HD_n; clear HD_n hm2 ho2 hat2) | (refine ev_append (.tmp 58) (.tmp 60) 60 31 rfl rfl w.heap.size _ 1 24 Try.underlying60 info31 rfl (by decide) _ ls.length (ls.map rv) rfl (HD.out.new _).left ⟨_, 0, none⟩ 1 1 [.slice rA 0 rcp] rfl rfl (fun j u hu => by rw [add_plain]; exact (blk_cell (blk_new _ _) j).trans (by simpa using hu)) (by simp [Value.oneCell']) BL.out.2.2.1 BL.out.2.2.2 (HD.out.new _).size ?_; intro v2 w_2 ho2 hm2 _ hat2; have HD_n := Aside0.mk ((HD.out.new _).lefts ⟨rA, 0, rcp, []⟩ ho2 hm2); clear HD; have HD := HD_n; clear HD_n hm2 ho2 hat2))
            go_roundg (N - (i + 1))
            case measure => omega
            case rel => exact ⟨i + 1, _, _, by go_num, by omega, by rw [fr_append]; exact HD.out, by rw [List.length_append]; simp [BLL.out.2], mem_add HRK0.out ⟨HRK.out, R8.out⟩⟩
          | cons y ys =>
            obtain ⟨b2, o2, e, hn2, hc2, _⟩ := hrk.head rfl
            obtain rfl : rA = some ⟨b2, o2, none⟩ := e
            have hcy := hc2 _ HD.out.below
            have r3 : decide ((0 : Int) < (rn : Int)) = true := decide_eq_true (by have h1 : rn = ys.length + 1 := hn2; omega)
            have hrn : 0 < rn := by have h1 : rn = ys.length + 1 := hn2; omega
            clear hrk hn2 hc2
            by_cases h13 : y = 13
            · subst h13
              go_wp2_with (first | (refine ev_append (.tmp 47) (.tmp 48) 61 40 rfl rfl w.heap.size _ 1 8 Try.underlying61 info40 rfl (by decide) _ bs.length (bs.map pv) rfl (HD.out.new _).bl.own ⟨_, 0, none⟩ 1 1 [.pointer none] rfl rfl (fun j u hu => by rw [add_plain]; exact (blk_cell (blk_new _ _) j).trans (by simpa using hu)) (by simp [Value.oneCell']) BL.out.1 BL.out.2.1 (HD.out.new _).size ?_; intro v2 w_2 ho2 hm2 _ hat2; have HD_n := Aside0.mk ((HD.out.new _).nobox ho2 hm2); clear HD; have HD := HD_n; clear HD_n hm2 ho2 hat2) | (refine ev_append (.tmp 50) (.tmp 51) 60 31 rfl rfl w.heap.size _ 1 24 Try.underlying60 info31 rfl (by decide) _ ls.length (ls.map rv) rfl (HD.out.new _).left ⟨_, 0, none⟩ 1 1 [.slice none 0 0] rfl rfl (fun j u hu => by rw [add_plain]; exact (blk_cell (blk_new _ _) j).trans (by simpa using hu)) (by simp [Value.oneCell']) BL.out.2.2.1 BL.out.2.2.2 (HD.out.new _).size ?_; intro v2 w_2 ho2 hm2 _ hat2; have HD_n := Aside0.mk ((HD.out.new _).lefts ⟨none, 0, 0, []⟩ ho2 hm2); clear HD; have HD := HD_n; clear HD_n hm2 ho2 hat2))
              go_roundg (N - (i + 1))
              case measure => omega
              case rel => exact ⟨i + 1, _, _, by go_num, by omega, by rw [fr_append]; exact HD.out, by rw [List.length_append]; simp [BLL.out.2], mem_add HRK0.out ⟨Rk.nil _, Nat.zero_le _⟩⟩
            · have r4 : (y == 13) = false := beq_eq_false_iff_ne.2 h13
              clear h13
              have HRA := Aside0.mk (show Arg icl w (some ⟨b2, o2, none⟩) rn (y :: ys) from HRK.out.1)
              go_wp2_with (first | (go_at_call 20; (with_reducible refine (filled_calls 9 _ rn rcp (y :: ys) _ (HRA.out.below HD.out.below) (by decide) (by decide) R9.out _ E9.out).mono ?_); rintro e_1 w_1 ⟨g, c, rfl, hx, hg, hc, hb⟩; have HX := Aside0.mk (show Bx w_1 g c 9 ((y :: ys).map frn) from hx); have HC := Aside0.mk (show (∀ k, Chs bs k → k < c) ∧ w.heap.size ≤ c from ⟨fun k hk => Nat.lt_of_lt_of_le (HD.out.bl.bxs.lt k hk) hc, Nat.le_trans HD.out.size hc⟩); have HD_n := Aside0.mk (HD.out.far hb); clear HD; have HD := HD_n; clear HD_n hx hg hc hb) | (refine ev_append (.tmp 53) (.tmp 56) 61 40 rfl rfl w.heap.size _ 1 8 Try.underlying61 info40 rfl (by decide) _ bs.length (bs.map pv) rfl (HD.out.new _).bl.own ⟨_, 0, none⟩ 1 1 [.pointer (some ⟨g, 0, none⟩)] rfl rfl (fun j u hu => by rw [add_plain]; exact (blk_cell (blk_new _ _) j).trans (by simpa using hu)) (by simp [Value.oneCell']) BL.out.1 BL.out.2.1 (HD.out.new _).size ?_; intro v2 w_2 ho2 hm2 _ hat2; have HD_n := Aside0.mk ((HD.out.new _).box (HX.out.below (below_alloc (Below.refl _ _) _)) HC.out.1 HC.out.2 ho2 hm2); clear HD; have HD := HD_n; clear HD_n hm2 ho2 hat2) | (refine ev_append (.tmp 58) (.tmp 60) 60 31 rfl rfl w.heap.size _ 1 24 Try.underlying60 info31 rfl (by decide) _ ls.length (ls.map rv) rfl (HD.out.new _).left ⟨_, 0, none⟩ 1 1 [.slice (some ⟨b2, o2, none⟩) rn rcp] rfl rfl (fun j u hu => by rw [add_plain]; exact (blk_cell (blk_new _ _) j).trans (by simpa using hu)) (by simp [Value.oneCell']) BL.out.2.2.1 BL.out.2.2.2 (HD.out.new _).size ?_; intro v2 w_2 ho2 hm2 _ hat2; have HD_n := Aside0.mk ((HD.out.new _).lefts ⟨some ⟨b2, o2, none⟩, rn, rcp, y :: ys⟩ ho2 hm2); clear HD; have HD := HD_n; clear HD_n hm2 ho2 hat2))
              go_roundg (N - (i + 1))
              case measure => omega
              case rel => exact ⟨i + 1, _, _, by go_num, by omega, by rw [fr_append]; exact HD.out, by rw [List.length_append]; simp [BLL.out.2], mem_add HRK0.out ⟨HRK.out, R8.out⟩⟩
      · obtain rfl : i = N := by omega
        have r1 : decide ((i : Int) < (i : Int)) = false := decide_eq_false (by omega)
        obtain ⟨T, hT⟩ : ∃ T, T = tot (fr ls) := ⟨_, rfl⟩
        have hT48 : T ≤ 48 := by have := fr_tot ls (fun r hr => (HRK0.out r hr).2); omega
        obtain ⟨F, hF⟩ : ∃ F, drain x (T + 1) (fr ls) [] = F := ⟨_, rfl⟩
        have HFF := Aside0.mk (show drain x (tot (fr ls) + 1) (fr ls) [] = F ∧ tot (fr ls) ≤ 1000 ∧ bs.length ≤ 1000 from ⟨by rw [← hT]; exact hF, by omega, by have := BLL.out.1; omega⟩)
        have HL2 := Aside0.mk (show ∀ W, Dl w W (.slice A5 bs.length c5) bs (fr ls) (.slice A6 ls.length c6) ls (.slice none 0 0) [] → L2 w (.slice A5 bs.length c5) bs (fr ls) (.slice A6 ls.length c6) x T i F (T + 1) (.slice none 0 0) (.bool true) W from fun W hW => ⟨ls, [], true, rfl, hW, by rw [← hT]; simp, BLL.out.2, fun r hr => (HRK0.out r hr).1, fun _ => ⟨hF, by omega⟩, fun h => by cases h⟩)
        obtain ⟨n6, hn6⟩ : ∃ n6, n6 = ls.length := ⟨_, rfl⟩
        rw [← hn6] at HD HL2
        rw [← hn6]
        have HN6 := Aside0.mk (show n6 = i by rw [hn6, BLL.out.2])
        obtain ⟨xss, hxs⟩ : ∃ xss, xss = fr ls := ⟨_, rfl⟩
        rw [← hxs] at HD HL2 HFF
        clear hT hF hll hxs hn6 HA2 HRK0 BL
        go_wp2_with (go_at_call 19; (with_reducible refine (HXc.out _).mono ?_); rintro e_1 w_1 ⟨rfl, hb⟩; have HD_n := Aside0.mk (HL2.out _ (HD.out.far hb)); clear HD HL2; have HD := HD_n; clear HD_n hb)
        go_loopg [10, 11, 12] (T + 1) (fun k s10 s11 s12 wr => L2 w (.slice A5 bs.length c5) bs xss (.slice A6 n6 c6) x T i F k s10 s11 wr)
        case atStart => exact HD.out
        case round =>
          clear HD
          obtain ⟨ls2, want, mv, rfl, hd, hTt, hll, hrk, hm1, hm0⟩ := hrel
          obtain ⟨A10, c10, rfl⟩ := own_slice hd.want
          have HD := Aside0.mk hd
          have HRK := Aside0.mk hrk
          have HTL := Aside0.mk (And.intro hTt (And.intro hll (And.intro hm1 hm0)))
          have hwl : want.length ≤ 48 := by omega
          obtain ⟨b, hbv⟩ : ∃ b, b = (mv && decide ((want.length : Int) < x)) := ⟨_, rfl⟩
          clear hd hrk hTt hll hm1 hm0
          go_upto_region 17 with fail
          go_cut [70] (fun s70 wc => s70 = .bool b ∧ wr = wc)
          case first =>
            cases mv with
            | false =>
              go_wp2
              go_meet
              case rel => exact ⟨by rw [hbv]; rfl, rfl⟩
            | true =>
              simp only [Bool.true_and] at hbv
              go_wp2
              go_meet
              case rel => exact ⟨by rw [hbv], rfl⟩
          case rest =>
            obtain ⟨rfl, rfl⟩ := hcut
            cases b with
            | true =>
              obtain ⟨rfl, hlx⟩ : mv = true ∧ (want.length : Int) < x := by
                have h1 := hbv.symm
                rw [Bool.and_eq_true] at h1
                exact ⟨h1.1, of_decide_eq_true h1.2⟩
              clear hbv
              obtain ⟨hdr, htk⟩ := HTL.out.2.2.1 rfl
              obtain ⟨k, rfl⟩ : ∃ k, gk = k + 1 := ⟨gk - 1, by omega⟩
              obtain ⟨P, hP⟩ : ∃ P, P = pass x (fr ls2) (want.map frn) := ⟨_, rfl⟩
              rw [drain, if_pos (by rw [List.length_map]; exact hlx), ← hP, List.length_map] at hdr
              obtain ⟨o0, ho0⟩ : ∃ o0, o0 = want.length := ⟨_, rfl⟩
              have HI := Aside0.mk (show L3 w (.slice A5 bs.length c5) bs xss (.slice A6 n6 c6) x T i o0 P i (.slice A10 want.length c10) (.bool false) (.int .i64 0) wr from ⟨0, ls2, want, false, rfl, rfl, by rw [ho0]; simp, by omega, HD.out, HTL.out.1, HTL.out.2.1, HRK.out, .inl ⟨hlx, by unfold At; rw [hP]; simp⟩, by omega⟩)
              have HDR := Aside0.mk (show (if P.2.length = o0 then P else drain x k P.1 P.2) = F ∧ tot (fr ls2) < k + 1 ∧ o0 + tot (fr ls2) = T from ⟨by rw [ho0]; exact hdr, htk, by rw [ho0]; exact HTL.out.1⟩)
              clear HD HTL HRK hP hdr htk ho0 hlx
              go_wp2
              go_loopg [10, 11, 12] i (fun kk s10 s11 s12 wr => L3 w (.slice A5 bs.length c5) bs xss (.slice A6 n6 c6) x T i o0 P kk s10 s11 s12 wr)
              case atStart => exact HI.out
              case round =>
                clear HI hwl
                obtain ⟨j, ls3, want3, tk, rfl, rfl, htk, hjk, hd, hTt, hll, hrk, hat, hoo⟩ := hrel
                obtain ⟨A1x, c1x, rfl⟩ := own_slice hd.want
                have HD := Aside0.mk hd
                have HRK := Aside0.mk hrk
                have HAT := Aside0.mk hat
                have HTT := Aside0.mk (And.intro hTt (And.intro hll (And.intro hoo htk)))
                have BW := Aside0.mk (show want3.length + 1 ≤ maxLen ∧ (want3.length + 1) * 8 ≤ 140737488355328 by unfold maxLen; omega)
                obtain ⟨b, hbv⟩ : ∃ b, b = (decide ((j : Int) < (n6 : Int)) && decide ((want3.length : Int) < x)) := ⟨_, rfl⟩
                clear hd hrk hat hTt hll hoo htk
                go_upto_region 20 with fail
                go_cut [80] (fun s80 wc => s80 = .bool b ∧ wr = wc)
                case first =>
                  by_cases hj6 : j < n6
                  · have h1 : decide ((j : Int) < (n6 : Int)) = true := decide_eq_true (by omega)
                    rw [h1, Bool.true_and] at hbv
                    go_wp2
                    go_meet
                    case rel => exact ⟨by rw [hbv], rfl⟩
                  · have h1 : decide ((j : Int) < (n6 : Int)) = false := decide_eq_false (by omega)
                    rw [h1, Bool.false_and] at hbv
                    go_wp2
                    go_meet
                    case rel => exact ⟨by rw [hbv], rfl⟩
                case rest =>
                  obtain ⟨rfl, rfl⟩ := hcut
                  cases b with
                  | true =>
                    obtain ⟨hj6, hlx⟩ : j < i ∧ (want3.length : Int) < x := by
                      have h1 := hbv.symm
                      rw [Bool.and_eq_true] at h1
                      have h2 := of_decide_eq_true h1.1
                      have := HN6.out
                      exact ⟨by omega, of_decide_eq_true h1.2⟩
                    clear hbv
                    have HLX := Aside0.mk hlx
                    obtain ⟨r, hr⟩ : ∃ r, ls3[j]? = some r := ⟨_, List.getElem?_eq_getElem (by have := HTT.out.2.1; omega)⟩
                    obtain ⟨g6, rfl, hnn, hc6, hf6⟩ := HD.out.row hr
                    clear hnn
                    have hrk := HRK.out r (List.mem_of_getElem? hr)
                    obtain ⟨rA, rn, rcp, rl⟩ := r
                    simp only [rv] at hc6
                    have h6i : j < n6 := by have := HN6.out; omega
                    cases rl with
                    | nil =>
                      obtain rfl : 0 = rn := hrk.1.1
                      have HR := Aside0.mk hr
                      clear hrk hr hlx
                      go_wp2
                      go_roundg (i - (j + 1))
                      case measure => omega
                      case rel => exact ⟨j + 1, ls3, want3, tk, by go_num, rfl, HTT.out.2.2.2, by omega, HD.out, HTT.out.1, HTT.out.2.1, HRK.out, HAT.out.elim (fun h => .inl ⟨h.1, h.2.empty (fr_at HR.out)⟩) (fun h => by have h1 := HLX.out; have h2 := h.1; omega), HTT.out.2.2.1⟩
                    | cons y ys =>
                      obtain ⟨b2, o2, e, hn2, hc2, hone, hmore⟩ := hrk.head rfl
                      obtain rfl : rA = some ⟨b2, o2, none⟩ := e
                      obtain rfl : rn = ys.length + 1 := hn2
                      have HC2 := Aside0.mk hc2
                      have hcy := hc2 _ HD.out.below
                      clear hrk hc2 hlx
                      by_cases h1 : rcp = 1
                      · subst h1
                        obtain ⟨hys, hrk'⟩ := hone rfl
                        obtain rfl : ys = [] := hys
                        have HRK' := Aside0.mk hrk'
                        clear hone hmore hrk'
                        go_wp2_with (refine ev_append (.tmp 89) (.tmp 96) 31 3 rfl rfl w.heap.size _ 1 8 Try.underlying31 info3 rfl (by decide) _ want3.length (want3.map (Value.int .i64)) rfl (HD.out.new _).want ⟨_, 0, none⟩ 1 1 [.int .i64 y] rfl rfl (fun j u hu => by rw [add_plain]; exact (blk_cell (blk_new _ _) j).trans (by simpa using hu)) (by simp [Value.oneCell']) BW.out.1 BW.out.2 (HD.out.new _).size ?_; intro v2 w_2 ho2 hm2 _ hat2; have HD_n := Aside0.mk ((HD.out.new _).wants y ho2 hm2); clear HD hc6 hf6; have HD := HD_n; obtain ⟨hc6, hf6⟩ := HD_n.out.row' hr; simp only [rv] at hc6; clear HD_n hm2 ho2 hat2)
                        go_roundg (i - (j + 1))
                        case measure => omega
                        case rel => exact ⟨j + 1, _, _, true, by go_num, rfl, (decide_eq_true (by rw [List.length_append, List.length_singleton]; have := HTT.out.2.2.1; omega)).symm, by omega, HD.out.set (by rw [HTT.out.2.1, HN6.out]) j ⟨some ⟨b2, o2, none⟩, 0, 0, []⟩, pass_tot HTT.out.1 hr rfl, by rw [List.length_set]; exact HTT.out.2.1, mem_set HRK.out HRK'.out, pass_step HLX.out HAT.out hr rfl, by rw [List.length_append]; have := HTT.out.2.2.1; omega⟩
                      · have HRK' := Aside0.mk (hmore h1)
                        have hrc : 1 ≤ rcp := by have h2 := (HRK.out _ (List.mem_of_getElem? hr)).2; have h3 : ys.length + 1 ≤ rcp := h2; omega
                        clear hone hmore
                        go_wp2_with (refine ev_append (.tmp 89) (.tmp 96) 31 3 rfl rfl w.heap.size _ 1 8 Try.underlying31 info3 rfl (by decide) _ want3.length (want3.map (Value.int .i64)) rfl (HD.out.new _).want ⟨_, 0, none⟩ 1 1 [.int .i64 y] rfl rfl (fun j u hu => by rw [add_plain]; exact (blk_cell (blk_new _ _) j).trans (by simpa using hu)) (by simp [Value.oneCell']) BW.out.1 BW.out.2 (HD.out.new _).size ?_; intro v2 w_2 ho2 hm2 _ hat2; have HD_n := Aside0.mk ((HD.out.new _).wants y ho2 hm2); clear HD hc6 hf6; have HD := HD_n; obtain ⟨hc6, hf6⟩ := HD_n.out.row' hr; simp only [rv] at hc6; clear HD_n hm2 ho2 hat2)
                        go_roundg (i - (j + 1))
                        case measure => omega
                        case rel => exact ⟨j + 1, _, _, true, by go_num, rfl, (decide_eq_true (by rw [List.length_append, List.length_singleton]; have := HTT.out.2.2.1; omega)).symm, by omega, HD.out.set (by rw [HTT.out.2.1, HN6.out]) j ⟨some ⟨b2, o2 + 1, none⟩, ys.length, rcp - 1, ys⟩, pass_tot HTT.out.1 hr rfl, by rw [List.length_set]; exact HTT.out.2.1, mem_set HRK.out HRK'.out, pass_step HLX.out HAT.out hr rfl, by rw [List.length_append]; have := HTT.out.2.2.1; omega⟩
                  | false =>
                    have HPE := Aside0.mk (show P = (fr ls3, want3.map frn) by
                      rcases HAT.out with ⟨h1, h2⟩ | ⟨_, h2⟩
                      · refine h2.end_ ?_
                        have h3 := hbv.symm
                        rw [decide_eq_true h1, Bool.and_true] at h3
                        have h4 := of_decide_eq_false h3
                        have := HN6.out
                        have := HTT.out.2.1
                        rw [fr_length]
                        omega
                      · exact h2)
                    clear hbv
                    go_wp2
                    go_roundg k
                    case measure => omega
                    case rel =>
                      obtain ⟨h1, h2, h3⟩ := HDR.out
                      have h4 := HTT.out
                      rw [HPE.out] at h1
                      have hl : (want3.map frn).length = want3.length := List.length_map _
                      rw [hl] at h1
                      refine ⟨ls3, want3, tk, rfl, HD.out, h4.1, h4.2.1, HRK.out, fun e => ?_, fun e => ?_⟩
                      · have h5 : want3.length ≠ o0 := of_decide_eq_true (h4.2.2.2.symm.trans e)
                        rw [if_neg h5] at h1
                        have h6 := h4.1
                        have h7 := h4.2.2.1
                        exact ⟨h1, by omega⟩
                      · have h5 : want3.length = o0 := by
                          have := of_decide_eq_false (h4.2.2.2.symm.trans e)
                          exact Classical.not_not.1 this
                        rw [if_pos h5] at h1
                        exact h1.symm
            | false =>
              have HFE := Aside0.mk (show F = (fr ls2, want.map frn) by
                have h1 := hbv.symm
                rw [Bool.and_eq_false_iff] at h1
                rcases h1 with h1 | h1
                · exact HTL.out.2.2.2 h1
                · cases mv with
                  | false => exact HTL.out.2.2.2 rfl
                  | true =>
                    have h2 := (HTL.out.2.2.1 rfl).1
                    rw [drain_full x _ _ _ (by rw [List.length_map]; exact of_decide_eq_false h1)] at h2
                    exact h2.symm)
              clear hbv
              have HF2 := Aside0.mk (show drain x (tot xss + 1) xss [] = (fr ls2, want.map frn) from HFF.out.1.trans HFE.out)
              have HLN := Aside0.mk (show tot xss ≤ 1000 ∧ bs.length ≤ 1000 ∧ want.length ≤ 1000 ∧ ls2.length = n6 ∧ bs.length = n6 ∧ (want.map frn).length = want.length from ⟨HFF.out.2.1, HFF.out.2.2, by omega, by rw [HTL.out.2.1, HN6.out], by rw [BLL.out.1, HN6.out], List.length_map _⟩)
              clear HFE HTL HFF hwl
              go_wp2_with (first | (go_at_call 24; (with_reducible refine (drain_calls _ A5 bs.length c5 bs xss _ HD.out.bl.bxs HD.out.bl.asRow HLN.out.2.1 HLN.out.1 (fr ls2, want.map frn) HF2.out).mono ?_); rintro e_1 w_1 ⟨vd, rfl, hd⟩; have ho : w_1.ownsRow _ 44 9 vd (want.map frn).length (cls (want.map frn)) := hd.own; rw [HLN.out.2.2.2.2.2] at ho; obtain ⟨Ad, cd, rfl⟩ := own_slice ho; have HO := Aside0.mk ho; have HD_n := Aside0.mk (show Dl w w_1 (.slice A5 bs.length c5) bs (fr ls2) (.slice A6 n6 c6) ls2 (.slice A10 want.length c10) want from HD.out.chs hd.bxs hd.mod); clear HD; have HD := HD_n; clear HD_n hd ho) | (go_at_call 28; (with_reducible refine (rids_calls _ Ad want.length cd (want.map frn) _ HO.out HLN.out.2.2.2.2.2 HLN.out.2.2.1).mono ?_); rintro e_1 w_1 ⟨Ar, cr, rfl, hr, hcr, hb⟩; have HR := Aside0.mk (show Rd w_1 Ar want.length want from by rw [f3_frn] at hr; exact hr); have HCR := Aside0.mk hcr; have HD_n := Aside0.mk (HD.out.far hb); clear HD HO; have HD := HD_n; clear HD_n hr hcr hb) | (go_at_call 27; (with_reducible refine (same_calls Ar want.length cr A10 want.length c10 want _ HR.out (own_rd HD.out.want rfl HLN.out.2.2.1) HCR.out (own_cap HD.out.want) HLN.out.2.2.1).mono ?_); rintro e_1 w_1 ⟨rfl, hb⟩; have HD_n := Aside0.mk (HD.out.far hb); clear HD HR HCR; have HD := HD_n; clear HD_n hb))
              obtain ⟨G, hG⟩ : ∃ G, fst 0 (fr ls2) = G := ⟨_, rfl⟩
              have HG0 := Aside0.mk hG
              have H4 := Aside0.mk (show L4 w (.slice A5 bs.length c5) bs (.slice A6 n6 c6) ls2 (.slice A10 want.length c10) want G n6 n6 (.int .i64 (-1)) (.int .i64 0) w_1 from ⟨0, rfl, by omega, HD.out, .inl ⟨rfl, HG0.out⟩⟩)
              clear HD hG
              go_loopg [13, 14] n6 (fun k s13 s14 wr => L4 w (.slice A5 bs.length c5) bs (.slice A6 n6 c6) ls2 (.slice A10 want.length c10) want G n6 k s13 s14 wr)
              case atStart => exact H4.out
              case round =>
                clear H4
                obtain ⟨j, rfl, hjk, hd, hs⟩ := hrel
                have HD := Aside0.mk hd
                have HS := Aside0.mk hs
                clear hd hs
                by_cases hj : j < n6
                · have r5 : decide ((j : Int) < (n6 : Int)) = true := decide_eq_true (by omega)
                  obtain ⟨r, hr⟩ : ∃ r, ls2[j]? = some r := ⟨_, List.getElem?_eq_getElem (by have := HLN.out.2.2.2.1; omega)⟩
                  obtain ⟨p, hp⟩ : ∃ p, bs[j]? = some p := ⟨_, List.getElem?_eq_getElem (by have := HLN.out.2.2.2.2.1; omega)⟩
                  obtain ⟨b5, rfl, hc5⟩ := HD.out.box_at hp
                  obtain ⟨g6, rfl, hnn, hc6, hf6⟩ := HD.out.row hr
                  have hrk := HRK.out r (List.mem_of_getElem? hr)
                  obtain ⟨rA, rn, rcp, rl⟩ := r
                  simp only [rv] at hc6
                  have HR := Aside0.mk hr
                  have HPB := Aside0.mk hp
                  have HLB := Aside0.mk (show rl.length = rn ∧ j < bs.length from ⟨hrk.1.1, by have := HLN.out.2.2.2.2.1; omega⟩)
                  have hjb := HLB.out.2
                  have hn60 : n6 ≤ 1000 := by have := HLN.out.2.2.2.2.1; have := HLN.out.2.1; omega
                  clear hnn hf6 hrk hr
                  go_upto_region 32 with fail
                  obtain ⟨W, hW⟩ : ∃ W, W = wr := ⟨_, rfl⟩
                  rw [← hW] at HD hc5 hc6
                  rw [← hW]
                  have HJ := Aside0.mk (And.intro hc5 hc6)
                  clear hW hc5 hc6
                  go_cut [136] (fun s136 wc => s136 = .bool false ∧ Below W.heap.size W wc)
                  case first =>
                    have HW := Aside0.mk (show Below W.heap.size W W.drew from below_drew (Below.refl _ _))
                    cases p with
                    | none =>
                      have hc5 : W.cell? ⟨b5, j, none⟩ = some (.pointer none) := HJ.out.1
                      clear hp
                      go_quiet (fail)
                      go_wp2_with fail
                      go_meet
                      case rel => exact ⟨rfl, pw_below_drewN (Below.refl _ _) nq⟩
                    | some q =>
                      obtain ⟨g, c⟩ := q
                      obtain ⟨xs, hx, hbx⟩ := HD.out.bl.bxs.box j _ hp
                      obtain rfl : rl.map frn = xs := Option.some.inj ((fr_at HR.out).symm.trans hx)
                      have HX := Aside0.mk (show Bx W.drew g c 9 (rl.map frn) ∧ (rl.map frn).length = rn from ⟨hbx.below HW.out, by rw [List.length_map]; exact HLB.out.1⟩)
                      have HS5 := Aside0.mk (show ∀ W', Below W.heap.size W W' → W'.cell? ⟨b5, j, none⟩ = some (.pointer (some ⟨g, 0, none⟩)) ∧ W'.cell? ⟨g6, j, none⟩ = some (.slice rA rn rcp) from fun W' hb => ⟨pw_cell_below hb HJ.out.1, pw_cell_below hb HJ.out.2⟩)
                      clear hp hx hbx
                      go_region_held3 (fun W' => W'.cell? ⟨b5, j, none⟩ = some (.pointer (some ⟨g, 0, none⟩)) ∧ W'.cell? ⟨g6, j, none⟩ = some (.slice rA rn rcp)) (exact HS5.out _ HW.out) ((go_at_call 26; (with_reducible refine (len_n g c (rl.map frn) rn _ HX.out.1 HX.out.2).mono ?_); rintro e_1 w_1 ⟨rfl, hb⟩; have HX_n := Aside0.mk (And.intro (HX.out.1.below hb) HX.out.2); have HW_n := Aside0.mk (below_step HW.out hb); clear HX HW; have HX := HX_n; have HW := HW_n; clear HX_n HW_n hb))
                      go_wp2_with fail
                      go_meet
                      case rel => exact ⟨by simp, HW.out⟩
                  case rest =>
                    obtain ⟨rfl, hb⟩ := hcut
                    have HD_n := Aside0.mk (HD.out.far hb)
                    clear HD HJ hb hp
                    have HD := HD_n
                    obtain ⟨hc6, _⟩ := HD_n.out.row' HR.out
                    simp only [rv] at hc6
                    clear HD_n
                    rcases HS.out with ⟨rfl, hf⟩ | ⟨p', r', y', ys', rfl, hr', hl', hG'⟩
                    · cases rl with
                      | nil =>
                        obtain rfl : 0 = rn := HLB.out.1
                        have HF5 := Aside0.mk ((fst_empty (fr_at HR.out)).symm.trans hf)
                        clear hf HS
                        go_wp2
                        go_roundg (n6 - (j + 1))
                        case measure => omega
                        case rel => exact ⟨j + 1, by go_num, by omega, HD.out, .inl ⟨rfl, HF5.out⟩⟩
                      | cons y ys =>
                        obtain rfl : ys.length + 1 = rn := HLB.out.1
                        have HF5 := Aside0.mk (show G = ((j : Int), frn y, true) from hf.symm.trans (fst_some (fr_at HR.out)))
                        clear hf HS
                        go_wp2
                        go_roundg (n6 - (j + 1))
                        case measure => omega
                        case rel => exact ⟨j + 1, by go_num, by omega, HD.out, .inr ⟨j, _, y, ys, rfl, HR.out, rfl, HF5.out⟩⟩
                    · have r6 : decide ((p' : Int) < 0) = false := decide_eq_false (by omega)
                      have HS5 := Aside0.mk (And.intro hr' (And.intro hl' hG'))
                      clear hr' hl' hG' HS
                      go_wp2
                      go_roundg (n6 - (j + 1))
                      case measure => omega
                      case rel => exact ⟨j + 1, by go_num, by omega, HD.out, .inr ⟨p', r', y', ys', rfl, HS5.out.1, HS5.out.2.1, HS5.out.2.2⟩⟩
                · obtain rfl : j = n6 := by omega
                  have r5 : decide ((j : Int) < (j : Int)) = false := decide_eq_false (by omega)
                  rcases HS.out with ⟨rfl, hf⟩ | ⟨p, r, y, ys, rfl, hr, hl, hG⟩
                  · have HGA := Aside0.mk (show fst 0 (fr ls2) = (-1, z, false) from HG0.out.trans (hf.symm.trans (fst_end (by rw [fr_length]; exact HLN.out.2.2.2.1.symm))))
                    clear hf HS
                    go_upto_region 37 with (first | (go_at_call 25; (with_reducible refine (first_calls A5 bs.length c5 bs (fr ls2) _ HD.out.bl.bxs HD.out.bl.asRow HLN.out.2.1 (-1) z false HGA.out).mono ?_); rintro e_1 w_1 ⟨rfl, hm⟩; have HB := Aside0.mk (hm.after HD.out.below HD.out.size HD.out.bl.ge); have HL := Aside0.mk (hm.own HD.out.left (HD.out.bl.bxs.own HD.out.left)); clear HD hm) | (refine gate_ (.alloc 44) rfl ?_; refine box_event ?hg (N := 16) ?hd (cs := (cl z).toArray) (t := 44) ?hr ?_; (case hd => rfl); (case hg => rfl); (case hr => first | (go_simp; done) | (go_simp; rfl)); intro q hgb w_1 hbox hb; have KQ := Aside0.mk hbox; have GQ := Aside0.mk (show w.heap.size ≤ q from by rw [hgb]; exact HB.out.size); have HB_n := Aside0.mk (below_step HB.out hb); have HL_n := Aside0.mk (pw_own_below HL.out hb); clear HB HL; have HB := HB_n; have HL := HL_n; clear HB_n HL_n hgb hbox hb) | (refine ev_store_row (.store 44 (.tmp 16) (.tmp 152)) rfl rfl rfl 44 (.tmp 16) (.tmp 152) rfl q (cl z).toArray rfl rfl 44 (cl z).toArray KQ.out (by kernel_rfl) rfl (cl_all _) ?_; intro w_2 hw2 hm2; have HB_n := Aside0.mk (hm2.after HB.out HB.out.size (fun k hk => by rw [hk]; exact GQ.out)); have HL_n := Aside0.mk (own_keep HL.out hm2 (fun k hk => ⟨(cl z).toArray, 44, by rw [hk]; exact KQ.out, by decide⟩)); clear HB HL KQ; have HB := HB_n; have HL := HL_n; have KQ := Aside0.mk hw2; clear HB_n HL_n hw2 hm2))
                    clear HG0 HF2 HLN BLL HN6
                    refine wp_quiet_wd (by kernel_rfl) (by kernel_rfl) ?_
                    repeat (go_big_quiet_step ((go_at_call 7; refine (runs_calls _).mono ?_; rintro e_1 w_1 ⟨rfl, hb⟩; exact ⟨rfl, ⟨w_1, below_step (Wd.h _) hb⟩, rfl⟩)))
                    refine wpQuiet_nil ?_
                    rintro _ ⟨nw, rfl⟩
                    have HE := Aside0.mk (below_then HB.out HB.out.size nw.h)
                    go_wp2
                    go_ret
                    exact ⟨rfl, HE.out⟩
                  · have hrk := HRK.out r (List.mem_of_getElem? hr)
                    obtain ⟨rA, rn, rcp, rl⟩ := r
                    obtain rfl : rl = y :: ys := hl
                    obtain ⟨b2, o2, e, hn2, hc2, _⟩ := hrk.head rfl
                    obtain rfl : rA = some ⟨b2, o2, none⟩ := e
                    obtain rfl : rn = ys.length + 1 := hn2
                    have HC2 := Aside0.mk hc2
                    have HR := Aside0.mk hr
                    have HGA := Aside0.mk (show fst 0 (fr ls2) = ((p : Int), frn y, true) from HG0.out.trans hG)
                    clear hrk hr hG hc2 HS
                    go_upto_region 37 with (first | (go_at_call 25; (with_reducible refine (first_calls A5 bs.length c5 bs (fr ls2) _ HD.out.bl.bxs HD.out.bl.asRow HLN.out.2.1 (p : Int) (frn y) true HGA.out).mono ?_); rintro e_1 w_1 ⟨rfl, hm⟩; have HB := Aside0.mk (hm.after HD.out.below HD.out.size HD.out.bl.ge); have HL := Aside0.mk (hm.own HD.out.left (HD.out.bl.bxs.own HD.out.left)); clear HD hm) | (refine gate_ (.alloc 44) rfl ?_; refine box_event ?hg (N := 16) ?hd (cs := (cl z).toArray) (t := 44) ?hr ?_; (case hd => rfl); (case hg => rfl); (case hr => first | (go_simp; done) | (go_simp; rfl)); intro q hgb w_1 hbox hb; have KQ := Aside0.mk hbox; have GQ := Aside0.mk (show w.heap.size ≤ q from by rw [hgb]; exact HB.out.size); have HB_n := Aside0.mk (below_step HB.out hb); have HL_n := Aside0.mk (pw_own_below HL.out hb); clear HB HL; have HB := HB_n; have HL := HL_n; clear HB_n HL_n hgb hbox hb) | (refine ev_store_row (.store 44 (.tmp 16) (.tmp 152)) rfl rfl rfl 44 (.tmp 16) (.tmp 152) rfl q (cl (frn y)).toArray rfl rfl 44 (cl z).toArray KQ.out (by kernel_rfl) rfl (cl_all _) ?_; intro w_2 hw2 hm2; have HB_n := Aside0.mk (hm2.after HB.out HB.out.size (fun k hk => by rw [hk]; exact GQ.out)); have HL_n := Aside0.mk (own_keep HL.out hm2 (fun k hk => ⟨(cl z).toArray, 44, by rw [hk]; exact KQ.out, by decide⟩)); clear HB HL KQ; have HB := HB_n; have HL := HL_n; have KQ := Aside0.mk hw2; clear HB_n HL_n hw2 hm2))
                    clear HG0 HF2 HLN BLL HN6
                    obtain ⟨g6, rfl, hp6, hc6⟩ := left_at HL.out HR.out
                    simp only [rv] at hc6
                    have hd6 := Wd.cell hc6
                    have hd2 := Wd.cell (HC2.out _ HB.out)
                    have hd3 := Wd.cell ((blk_cell KQ.out 3).trans (show (cl (frn y)).toArray[3]? = some (Value.int .i64 y) from rfl))
                    have e1 : ((p : Int) == (p : Int)) = true := beq_self_eq_true _
                    have e2 : decide ((0 : Int) ≤ (p : Int)) = true := decide_eq_true (by omega)
                    have e3 : (y == y) = true := beq_self_eq_true _
                    clear hc6
                    refine wp_quiet_wd (by kernel_rfl) (by kernel_rfl) ?_
                    repeat (go_big_quiet_step ((go_at_call 7; refine (runs_calls _).mono ?_; rintro e_1 w_1 ⟨rfl, hb⟩; exact ⟨rfl, ⟨w_1, below_step (Wd.h _) hb⟩, rfl⟩)))
                    refine wpQuiet_nil ?_
                    rintro _ ⟨nw, rfl⟩
                    have HE := Aside0.mk (below_then HB.out HB.out.size nw.h)
                    go_wp2
                    go_ret
                    exact ⟨rfl, HE.out⟩
end Go.Proofs.Ytnfnbcbbiaheeaa.Ml
