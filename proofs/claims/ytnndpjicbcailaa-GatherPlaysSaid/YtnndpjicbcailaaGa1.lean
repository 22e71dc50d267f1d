/- Gather: what its parts call: Contains, Same, Clone. -/
import Derived.Test.YtnndpjicbcailaaLib2
import Derived.Test.YtnndpjicbcailaaOpen
import Derived.Test.YtnndpjicbcailaaPGatherPlaysx2
import Derived.BigQuiet
import Derived.WalkMore
import Derived.Laws.Cover3
namespace Go.Proofs.Ytnndpjicbcailaa.Ga
open Go.RowKit Go.Proofs.YtnndpjicbcailaaW.PrintWords Go.Proofs.YtnndpjicbcailaaW.PrintLast Go.Proofs.YtnndpjicbcailaaW.PrintMore Go.Proofs.Ytnndpjicbcailaa.Lib Go.Proofs.Ytnndpjicbcailaa.Open
/-- Numbers that can be read. -/
def Rd (w : World) (A : Option Addr) (n : Nat) (l : List Int) : Prop := (Kd.int .i64).C w A n l
theorem Rd.below {w W : World} {A : Option Addr} {n : Nat} {l : List Int} (h : Rd w A n l) (hb : Below w.heap.size w W) : Rd W A n l := Kd.C_below h hb
theorem Rd.nil (w : World) : Rd w none 0 [] := Kd.C_nil _ w
theorem Rd.of_blk {w : World} {g : Nat} {t : TypeId} {l : List Int} (h : w.heap[g]? = some (.cells (l.map (Value.int .i64)).toArray t (0, 0))) (hl : l.length ≤ 1000) : Rd w (some ⟨g, 0, none⟩) l.length l := by
  refine ⟨rfl, by omega, fun _ => ⟨_, rfl, fun j p hj => ⟨[.int .i64 p], rfl, rfl, fun i u hu => ?_⟩⟩⟩
  cases i with
  | zero =>
    obtain rfl : Value.int .i64 p = u := by simpa using hu
    rw [add_plain, blk_cell h]
    show (l.map (Value.int .i64)).toArray[j * 1 + 0]? = _
    rw [Nat.mul_one, Nat.add_zero, List.getElem?_toArray, List.getElem?_map, hj]
    rfl
  | succ i => simp at hu
theorem Rd.cell {w : World} {A : Option Addr} {n : Nat} {l : List Int} (h : Rd w A n l) {j : Nat} {x : Int} (hj : l[j]? = some x) : ∃ a, A = some a ∧ w.cell? (a.add j) = some (.int .i64 x) := by
  have hl := (List.getElem?_eq_some_iff.1 hj).1
  obtain ⟨a, rfl, ha⟩ := h.2.2 (by have := h.1; omega)
  obtain ⟨cs, _, hk, hc⟩ := ha j x hj
  refine ⟨a, rfl, ?_⟩
  have := hc 0 (.int .i64 x) (by rw [show cs = [Value.int .i64 x] from hk]; rfl)
  rwa [show j * (Kd.int .i64).sz + 0 = j from Nat.mul_one j] at this
theorem own_rd {W : World} {B n c : Nat} {A : Option Addr} {l : List Int} (h : W.ownsRow B 3 1 (.slice A n c) n (l.map (Value.int .i64))) (hn : l.length = n) (hl : n ≤ 1000) : Rd W A n l := by
  refine ⟨hn, by omega, fun h0 => ?_⟩
  have h' := h
  rcases h.2 with ⟨e, hz⟩ | ⟨g, cap, cur, e, hg, hh, _⟩
  · omega
  · injection e with e1 e2 e3
    subst e1 e3
    refine ⟨_, rfl, fun j p hj => ⟨[.int .i64 p], rfl, rfl, fun i u hu => ?_⟩⟩
    cases i with
    | zero =>
      obtain rfl : Value.int .i64 p = u := by simpa using hu
      have := (List.getElem?_eq_some_iff.1 hj).1
      rw [show j * (Kd.int .i64).sz + 0 = j from Nat.mul_one j, add_plain, h'.cellAt j (by omega), List.getElem?_map, hj]
      rfl
    | succ i => simp at hu
theorem Rd.take {w : World} {A : Option Addr} {n : Nat} {l : List Int} (h : Rd w A n l) (k : Nat) (hk : k ≤ n) : Rd w A k (l.take k) := by
  obtain ⟨h1, h2, h3⟩ := h
  refine ⟨by rw [List.length_take]; omega, by omega, fun h0 => ?_⟩
  obtain ⟨a, e, ha⟩ := h3 (by omega)
  refine ⟨a, e, fun j p hj => ha j p ?_⟩
  have := (List.getElem?_eq_some_iff.1 hj).1
  rw [List.length_take] at this
  rwa [List.getElem?_take_of_lt (by omega)] at hj
/-- Contains. -/
theorem idx (l : List Int) (a : Int) (hl : l.length ≤ 1000) : ∀ d i : Nat, i + d = l.length → ∃ r, PGatherPlays.slices_Index_int_int.l0 (d + 1) l a (l.length : Int) (i : Int) = some r ∧ decide (r ≥ 0) = (l.drop i).contains a := by
  intro d
  induction d with
  | zero =>
    intro i hi
    refine ⟨-1, ?_, ?_⟩
    · unfold PGatherPlays.slices_Index_int_int.l0
      rw [if_neg (by omega)]
    · rw [List.drop_eq_nil_of_le (by omega)]
      rfl
  | succ d ih =>
    intro i hi
    have hlt : i < l.length := by omega
    have hr : rd l (i : Int) = l[i] := by
      unfold rd
      rw [Int.toNat_natCast, List.getD_eq_getElem?_getD, List.getElem?_eq_getElem hlt]
      rfl
    have hw : wrap64 ((i : Int) + 1) = ((i + 1 : Nat) : Int) := by unfold wrap64; omega
    unfold PGatherPlays.slices_Index_int_int.l0
    rw [if_pos (by omega), if_pos (by omega), if_pos (by omega), hr, List.drop_eq_getElem_cons hlt, List.contains_cons]
    by_cases e : a = l[i]
    · rw [if_pos e]
      refine ⟨_, rfl, ?_⟩
      rw [beq_iff_eq.2 e, Bool.true_or]
      exact decide_eq_true (by omega)
    · rw [if_neg e, hw]
      obtain ⟨r, h1, h2⟩ := ih (i + 1) (by omega)
      refine ⟨r, h1, ?_⟩
      rw [h2, beq_eq_false_iff_ne.2 e, Bool.false_or]
theorem contains_calls (A : Option Addr) (n c : Nat) (l : List Int) (a : Int) (b : Bool) (w : World) (hr : Rd w A n l) (hc : n ≤ c) (hl : n ≤ 1000) (hb : l.contains a = b) :
    Calls Try.prog 19 #[.slice A n c, .int .i64 a] w fun e w' => e = .returned (.bool b) ∧ Drawn0 w w' := by
  subst hb
  obtain rfl : l.length = n := hr.1
  obtain ⟨r, h1, h2⟩ := idx l a hl l.length 0 (by omega)
  exact (PGatherPlays.slices_Contains_int_int.calls (l.length + 1) A c l a (l.contains a) w hr hc (by unfold PGatherPlays.slices_Contains_int_int.f PGatherPlays.slices_Index_int_int.f; erw [h1]; rw [Option.bind_some, h2]; rfl))
theorem same_f (l : List Int) (hl : l.length ≤ 1000) : ∀ d i : Nat, i + d = l.length → PGatherPlays.depotbook_Same_int.l0 (d + 1) l l (i : Int) = some true := by
  intro d
  induction d with
  | zero =>
    intro i hi
    unfold PGatherPlays.depotbook_Same_int.l0
    rw [if_neg (by omega)]
  | succ d ih =>
    intro i hi
    have hw : wrap64 ((i : Int) + 1) = ((i + 1 : Nat) : Int) := by unfold wrap64; omega
    unfold PGatherPlays.depotbook_Same_int.l0
    rw [if_pos (by omega), if_pos (by omega), if_pos (by omega), if_pos rfl, hw, ih (i + 1) (by omega)]
theorem same_calls (A0 : Option Addr) (n0 c0 : Nat) (A1 : Option Addr) (n1 c1 : Nat) (l : List Int) (w : World) (h0 : Rd w A0 n0 l) (h1 : Rd w A1 n1 l) (hc0 : n0 ≤ c0) (hc1 : n1 ≤ c1) (hl : l.length ≤ 1000) :
    Calls Try.prog 10 #[.slice A0 n0 c0, .slice A1 n1 c1] w fun e w' => e = .returned (.bool true) ∧ Drawn0 w w' := by
  obtain rfl : l.length = n0 := h0.1
  obtain rfl : l.length = n1 := h1.1
  have hf : PGatherPlays.depotbook_Same_int.f (l.length + 1) l l = some true := by
    unfold PGatherPlays.depotbook_Same_int.f
    rw [if_pos rfl]
    exact same_f l hl l.length 0 (by omega)
  exact PGatherPlays.depotbook_Same_int.calls (l.length + 1) A0 c0 l A1 c1 l true w h0 hc0 h1 hc1 hf
/-- A part. -/
structure Pt where
  at_ : Int
  data : ByteArray
def pcl (p : Pt) : List Value := [.int .i64 p.at_, .string p.data]
theorem pcl_length (p : Pt) : (pcl p).length = 2 := rfl
def pcls (ps : List Pt) : List Value := ps.flatMap pcl
theorem pcls_append (xs ys : List Pt) : pcls (xs ++ ys) = pcls xs ++ pcls ys := by simp [pcls]
theorem pcls_single (x : Pt) : pcls [x] = pcl x := by simp [pcls]
theorem pcls_length (ps : List Pt) : (pcls ps).length = ps.length * 2 := flat_length pcl 2 pcl_length ps
theorem pcl_one (x : Pt) : ∀ u ∈ pcl x, u.oneCell' = true := by
  intro u hu
  simp only [pcl, List.mem_cons, List.not_mem_nil, or_false] at hu
  rcases hu with rfl | rfl <;> rfl
theorem pcls_one (ps : List Pt) : ∀ u ∈ pcls ps, u.oneCell' = true := by
  intro u hu
  obtain ⟨x, _, h⟩ := List.mem_flatMap.1 hu
  exact pcl_one x u h
def toS (x : Pt) : PGatherPlays.S33 := ⟨x.at_, x.data⟩
/-- Parts that can be read. -/
def Rp (w : World) (A : Option Addr) (n : Nat) (l : List Pt) : Prop := Kd.C PGatherPlays.k33 w A n (l.map toS)
theorem Rp.below {w W : World} {A : Option Addr} {n : Nat} {l : List Pt} (h : Rp w A n l) (hb : Below w.heap.size w W) : Rp W A n l := Kd.C_below h hb
theorem own_rp {W : World} {B n c : Nat} {A : Option Addr} {ps : List Pt} (h : W.ownsRow B 33 2 (.slice A n c) n (pcls ps)) (hn : ps.length = n) (hl : n ≤ 1000) : Rp W A n ps := by
  refine ⟨by rw [List.length_map]; exact hn, by omega, fun h0 => ?_⟩
  have h' := h
  rcases h.2 with ⟨e, _⟩ | ⟨g, cap, cur, e, _⟩
  · injection e with _ e _
    omega
  · injection e with e1 e2 e3
    subst e1 e3
    refine ⟨_, rfl, fun j p hj => ?_⟩
    rw [List.getElem?_map] at hj
    obtain ⟨x, hx, rfl⟩ := Option.map_eq_some_iff.1 hj
    have hjl := (List.getElem?_eq_some_iff.1 hx).1
    refine ⟨pcl x, rfl, PGatherPlays.k33_mk W (toS x), fun i u hu => ?_⟩
    have hi : i < 2 := (List.getElem?_eq_some_iff.1 hu).1
    show W.cell? ((⟨g, 0, none⟩ : Addr).add (j * 2 + i)) = some u
    rw [add_plain, h'.cellAt _ (by omega)]
    exact flat_at pcl 2 pcl_length ps j x hx i u hu
theorem rp_blk {w : World} {g : Nat} {t : TypeId} {ps : List Pt} (h : w.heap[g]? = some (.cells (pcls ps).toArray t (0, 0))) (hl : ps.length ≤ 1000) : Rp w (some ⟨g, 0, none⟩) ps.length ps := by
  refine ⟨by rw [List.length_map], by omega, fun h0 => ⟨_, rfl, fun j p hj => ?_⟩⟩
  rw [List.getElem?_map] at hj
  obtain ⟨x, hx, rfl⟩ := Option.map_eq_some_iff.1 hj
  refine ⟨pcl x, rfl, PGatherPlays.k33_mk w (toS x), fun i u hu => ?_⟩
  show w.cell? ((⟨g, 0, none⟩ : Addr).add (j * 2 + i)) = some u
  rw [add_plain, blk_cell h, List.getElem?_toArray]
  exact flat_at pcl 2 pcl_length ps j x hx i u hu
theorem sameP_f (l : List PGatherPlays.S33) (hl : l.length ≤ 1000) : ∀ d i : Nat, i + d = l.length → PGatherPlays.api_Part_12.l0 (d + 1) l l (i : Int) = some true := by
  intro d
  induction d with
  | zero =>
    intro i hi
    unfold PGatherPlays.api_Part_12.l0
    rw [if_neg (by omega)]
  | succ d ih =>
    intro i hi
    have hw : wrap64 ((i : Int) + 1) = ((i + 1 : Nat) : Int) := by unfold wrap64; omega
    unfold PGatherPlays.api_Part_12.l0
    rw [if_pos (by omega), if_pos (by omega), if_pos (by omega), if_neg (by simp), hw, ih (i + 1) (by omega)]
theorem sameP_calls (A0 : Option Addr) (n0 c0 : Nat) (A1 : Option Addr) (n1 c1 : Nat) (l : List Pt) (w : World) (h0 : Rp w A0 n0 l) (h1 : Rp w A1 n1 l) (hc0 : n0 ≤ c0) (hc1 : n1 ≤ c1) (hl : l.length ≤ 1000) :
    Calls Try.prog 12 #[.slice A0 n0 c0, .slice A1 n1 c1] w fun e w' => e = .returned (.bool true) ∧ Drawn0 w w' := by
  obtain rfl : (l.map toS).length = n0 := h0.1
  obtain rfl : (l.map toS).length = n1 := h1.1
  have hf : PGatherPlays.api_Part_12.f ((l.map toS).length + 1) (l.map toS) (l.map toS) = some true := by
    unfold PGatherPlays.api_Part_12.f
    rw [if_pos rfl]
    exact sameP_f (l.map toS) (by rw [List.length_map]; exact hl) (l.map toS).length 0 (by omega)
  exact PGatherPlays.api_Part_12.calls ((l.map toS).length + 1) A0 c0 (l.map toS) A1 c1 (l.map toS) true w h0 hc0 h1 hc1 hf
theorem info3 : (Try.prog.info? 3).map (fun i => (i.zero, i.size, i.bytes)) = some (some (.int .i64 0), 1, 8) := by kernel_rfl
theorem info33 : (Try.prog.info? 33).map (fun i => (i.zero, i.size, i.bytes)) = some (some (.agg #[.int .i64 0, .string ⟨#[]⟩]), 2, 24) := by kernel_rfl
theorem map_one (l : List Int) : ∀ u ∈ l.map (Value.int .i64), u.oneCell' = true := fun u hu => by
  obtain ⟨x, _, rfl⟩ := List.mem_map.1 hu
  rfl
theorem nil26 (a : Option Addr) (n c : Nat) (w : World) : (binOp .eql 26 (.slice a n c) (.slice none 0 0)).run Try.prog w = .ok (.bool a.isNone) w := by
  have h := run_equal_slice_nil (P := Try.prog) (w := w) 26 3 a n c Try.underlying26
  simp only [binOp]
  simp [h]
theorem nil34 (a : Option Addr) (n c : Nat) (w : World) : (binOp .eql 34 (.slice a n c) (.slice none 0 0)).run Try.prog w = .ok (.bool a.isNone) w := by
  have h := run_equal_slice_nil (P := Try.prog) (w := w) 34 33 a n c Try.underlying34
  simp only [binOp]
  simp [h]
set_option maxHeartbeats 4000000 in
set_option maxRecDepth 100000 in
/-- Clone of numbers: a row of the call's own. -/
theorem clone_calls (A : Option Addr) (n c : Nat) (l : List Int) (w : World) (h : Rd w A n l) (hl : n ≤ 1000) :
    Calls Try.prog 20 #[.slice A n c] w fun e w' => ∃ v, e = .returned v ∧ w'.ownsRow w.heap.size 3 1 v n (l.map (Value.int .i64)) ∧ Below w.heap.size w w' := by
  have hln : l.length = n := h.1
  cases A with
  | none =>
    have hn0 : n = 0 := by
      rcases Nat.eq_zero_or_pos n with h0 | h0
      · exact h0
      · obtain ⟨a, e, _⟩ := h.2.2 h0
        cases e
    subst hn0
    obtain rfl : l = [] := List.length_eq_zero_iff.1 hln
    have hnil := nil26 none 0 c
    simp only [Option.isNone_none] at hnil
    clear h hl hln
    go_enter Try.func20, Try.ntmps20
    go_wp2
    go_ret
    exact ⟨_, rfl, own_nil _ _ _ _, Below.refl _ _⟩
  | some a =>
    have hnil := nil26 (some a) n c
    simp only [Option.isNone_some] at hnil
    have HR := Aside0.mk (show ∀ W, Below w.heap.size w W → ∀ j u, (l.map (Value.int .i64))[j]? = some u → W.cell? (a.add j) = some u from fun W hb j u hu => by
      rw [List.getElem?_map] at hu
      obtain ⟨x, hx, rfl⟩ := Option.map_eq_some_iff.1 hu
      obtain ⟨a', e, hc⟩ := (h.below hb).cell hx
      cases e
      exact hc)
    have HL := Aside0.mk (show (l.map (Value.int .i64)).length = n * 1 ∧ 0 + n ≤ maxLen ∧ (0 + n) * 8 ≤ 140737488355328 by rw [List.length_map]; unfold maxLen; omega)
    have HB := Aside0.mk (below_alloc (Below.refl w.heap.size w) (.cells #[] 3 (0, 0)))
    clear h hl hln
    go_enter Try.func20, Try.ntmps20
    go_wp2_with (refine ev_append (W := w.alloc (.cells #[] 3 (0, 0))) (.tmp 5) (.tmp 6) 26 3 rfl rfl w.heap.size _ 1 8 Try.underlying26 info3 rfl (by decide) _ 0 [] rfl (own_empty (Nat.le_refl _) (blk_new w _)) a n c (l.map (Value.int .i64)) rfl HL.out.1 (HR.out _ HB.out) (map_one l) HL.out.2.1 HL.out.2.2 HB.out.size ?_; intro v2 w_2 ho2 hm2 _ hat2; rw [Nat.zero_add, List.nil_append] at ho2; have HO := Aside0.mk ho2; have HB_n := Aside0.mk (hm2.after HB.out HB.out.size (fun k hk => Nat.le_of_eq (Option.some.inj (show some w.heap.size = some k from hk.symm)))); clear HB; have HB := HB_n; clear HB_n ho2 hm2 hat2)
    go_ret
    exact ⟨_, rfl, HO.out, HB.out⟩
set_option maxHeartbeats 4000000 in
set_option maxRecDepth 100000 in
/-- Clone of parts: a row of the call's own. -/
theorem cloneP_calls (A : Option Addr) (n c : Nat) (ps : List Pt) (B : Nat) (w : World) (h : w.ownsRow B 33 2 (.slice A n c) n (pcls ps)) (hps : ps.length = n) (hl : n ≤ 1000) :
    Calls Try.prog 21 #[.slice A n c] w fun e w' => ∃ v, e = .returned v ∧ w'.ownsRow w.heap.size 33 2 v n (pcls ps) ∧ Below w.heap.size w w' := by
  rcases h.2 with ⟨e, hz⟩ | ⟨g, cap, cur, e, hg, hh, _⟩
  · injection e with e1 e2 e3
    subst e1 e2 e3
    obtain rfl : ps = [] := List.length_eq_zero_iff.1 hps
    have hnil := nil34 none 0 0
    simp only [Option.isNone_none] at hnil
    clear h hl hps hz
    go_enter Try.func21, Try.ntmps21
    go_wp2
    go_ret
    exact ⟨_, rfl, own_nil _ _ _ _, Below.refl _ _⟩
  · injection e with e1 e2 e3
    subst e1 e3
    have hnil := nil34 (some ⟨g, 0, none⟩) n c
    simp only [Option.isNone_some] at hnil
    have HR := Aside0.mk (show ∀ W, Below w.heap.size w W → ∀ j u, (pcls ps)[j]? = some u → W.cell? ((⟨g, 0, none⟩ : Addr).add j) = some u from fun W hb j u hu => pw_cell_below hb (news_of_own h j u hu))
    have HL := Aside0.mk (show (pcls ps).length = n * 2 ∧ 0 + n ≤ maxLen ∧ (0 + n) * 24 ≤ 140737488355328 by rw [pcls_length]; unfold maxLen; omega)
    have HB := Aside0.mk (below_alloc (Below.refl w.heap.size w) (.cells #[] 33 (0, 0)))
    clear h hl hps hh hg
    go_enter Try.func21, Try.ntmps21
    go_wp2_with (refine ev_append (W := w.alloc (.cells #[] 33 (0, 0))) (.tmp 5) (.tmp 6) 34 33 rfl rfl w.heap.size _ 2 24 Try.underlying34 info33 rfl (by decide) _ 0 [] rfl (own_empty (Nat.le_refl _) (blk_new w _)) ⟨g, 0, none⟩ n c (pcls ps) rfl HL.out.1 (HR.out _ HB.out) (pcls_one ps) HL.out.2.1 HL.out.2.2 HB.out.size ?_; intro v2 w_2 ho2 hm2 _ hat2; rw [Nat.zero_add, List.nil_append] at ho2; have HO := Aside0.mk ho2; have HB_n := Aside0.mk (hm2.after HB.out HB.out.size (fun k hk => Nat.le_of_eq (Option.some.inj (show some w.heap.size = some k from hk.symm)))); clear HB; have HB := HB_n; clear HB_n ho2 hm2 hat2)
    go_ret
    exact ⟨_, rfl, HO.out, HB.out⟩
end Go.Proofs.Ytnndpjicbcailaa.Ga
