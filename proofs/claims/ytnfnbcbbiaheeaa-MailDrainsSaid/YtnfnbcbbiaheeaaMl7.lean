/- rids and Same, of rows of the call's own. -/
import Derived.Test.YtnfnbcbbiaheeaaMl6
namespace Go.Proofs.Ytnfnbcbbiaheeaa.Ml
open Go.RowKit Go.Proofs.YtnfnbcbbiaheeaaW.PrintWords Go.Proofs.YtnfnbcbbiaheeaaW.PrintLast Go.Proofs.Ytnfnbcbbiaheeaa.Lib Go.Proofs.Ytnfnbcbbiaheeaa.Open
/-- Numbers that can be read. -/
def Rd (w : World) (A : Option Addr) (n : Nat) (l : List Int) : Prop := (Kd.int .i64).C w A n l
theorem Rd.below {w W : World} {A : Option Addr} {n : Nat} {l : List Int} (h : Rd w A n l) (hb : Below w.heap.size w W) : Rd W A n l := Kd.C_below h hb
theorem Rd.of_blk {w : World} {g : Nat} {t : TypeId} {l : List Int} (h : w.heap[g]? = some (.cells (l.map (Value.int .i64)).toArray t (0, 0))) (hl : l.length ≤ 1000) : Rd w (some ⟨g, 0, none⟩) l.length l := by
  refine ⟨rfl, by omega, fun _ => ⟨_, rfl, fun j p hj => ⟨[.int .i64 p], rfl, rfl, fun i u hu => ?_⟩⟩⟩
  cases i with
  | zero =>
    obtain rfl : Value.int .i64 p = u := by simpa using hu
    rw [add_plain, blk_cell h]
    show (l.map (Value.int .i64)).toArray[j * 1 + 0]? = _
    rw [Nat.mul_one, Nat.add_zero, List.getElem?_toArray, List.getElem?_map, hj]
    rfl
  | succ i => simp at hu
def toS (x : Fr) : PMailFair.S44 := ⟨x.f0, x.f1, x.f2, x.f3, x.f4, x.f5, x.f6, x.f7, x.f8⟩
theorem own_C {W : World} {B n c : Nat} {A : Option Addr} {fs : List Fr} (h : W.ownsRow B 44 9 (.slice A n c) n (cls fs)) (hn : fs.length = n) (hl : n ≤ 1000) : Kd.C PMailFair.k44 W A (fs.map toS).length (fs.map toS) := by
  refine ⟨rfl, by rw [List.length_map]; omega, fun h0 => ?_⟩
  rw [List.length_map, hn] at h0
  have h' := h
  rcases h.2 with ⟨e, _⟩ | ⟨g, cap, cur, e, _⟩
  · injection e with _ e _
    omega
  · injection e with e1 e2 e3
    subst e1 e3
    refine ⟨_, rfl, fun j p hj => ?_⟩
    rw [List.getElem?_map] at hj
    obtain ⟨x, hx, rfl⟩ := Option.map_eq_some_iff.1 hj
    have hjl := (List.getElem?_eq_some_iff.1 hx).1
    refine ⟨cl x, rfl, PMailFair.k44_mk W (toS x), fun i u hu => ?_⟩
    have hi : i < 9 := (List.getElem?_eq_some_iff.1 hu).1
    show W.cell? ((⟨g, 0, none⟩ : Addr).add (j * 9 + i)) = some u
    rw [add_plain, h'.cellAt _ (by omega)]
    exact flat_at cl 9 cl_length fs j x hx i u hu
theorem rids_f (l : List PMailFair.S44) (hl : l.length ≤ 1000) : ∀ (d i : Nat) (acc : List Int), i + d = l.length → acc.length ≤ i → PMailFair.depotlaw8_rids.l0 (d + 1) l acc (i : Int) = some (acc ++ (l.drop i).map fun x => x.f3) := by
  intro d
  induction d with
  | zero =>
    intro i acc hi _
    unfold PMailFair.depotlaw8_rids.l0
    rw [if_neg (by omega), List.drop_eq_nil_of_le (by omega)]
    simp
  | succ d ih =>
    intro i acc hi ha
    have hlt : i < l.length := by omega
    have hw : wrap64 ((i : Int) + 1) = ((i + 1 : Nat) : Int) := by unfold wrap64; omega
    have hr : PMailFair.rd_T44 l (i : Int) = l[i] := by
      unfold PMailFair.rd_T44
      rw [Int.toNat_natCast, List.getD_eq_getElem?_getD, List.getElem?_eq_getElem hlt]
      rfl
    unfold PMailFair.depotlaw8_rids.l0
    rw [if_pos (by omega), if_pos (by omega), if_pos (by omega), hw, hr, ih (i + 1) _ (by omega) (by rw [List.length_append, List.length_singleton]; omega), List.drop_eq_getElem_cons hlt, List.map_cons, List.append_assoc]
    rfl
theorem rids_calls (B : Nat) (A : Option Addr) (n c : Nat) (fs : List Fr) (w : World) (h : w.ownsRow B 44 9 (.slice A n c) n (cls fs)) (hn : fs.length = n) (hl : n ≤ 1000) :
    Calls Try.prog 28 #[.slice A n c] w fun e w' => ∃ A' c', e = .returned (.slice A' n c') ∧ Rd w' A' n (fs.map fun x => x.f3) ∧ n ≤ c' ∧ Below w.heap.size w w' := by
  have hc : n ≤ c := own_cap h
  have hC := own_C h hn hl
  have hf : PMailFair.depotlaw8_rids.f (n + 1) (fs.map toS) = some (fs.map fun x => x.f3) := by
    have := rids_f (fs.map toS) (by rw [List.length_map]; omega) n 0 [] (by rw [List.length_map]; omega) (Nat.le_refl _)
    unfold PMailFair.depotlaw8_rids.f
    rw [show ((0 : Nat) : Int) = 0 from rfl] at this
    rw [this]
    simp [toS]
  have := PMailFair.depotlaw8_rids.calls (n + 1) A c (fs.map toS) (fs.map fun x => x.f3) w hC (by rw [List.length_map]; omega) hf
  rw [List.length_map, hn] at this
  refine this.mono ?_
  rintro e w' ⟨v, rfl, hR, hb⟩
  obtain ⟨A', c', rfl, h1, h2⟩ := Kd.R_reads hR
  rw [List.length_map, hn] at h1 h2 ⊢
  exact ⟨A', c', rfl, h2, h1, hb⟩
theorem same_f (l : List Int) (hl : l.length ≤ 1000) : ∀ d i : Nat, i + d = l.length → PMailFair.depotbook_Same_int.l0 (d + 1) l l (i : Int) = some true := by
  intro d
  induction d with
  | zero =>
    intro i hi
    unfold PMailFair.depotbook_Same_int.l0
    rw [if_neg (by omega)]
  | succ d ih =>
    intro i hi
    have hw : wrap64 ((i : Int) + 1) = ((i + 1 : Nat) : Int) := by unfold wrap64; omega
    unfold PMailFair.depotbook_Same_int.l0
    rw [if_pos (by omega), if_pos (by omega), if_pos (by omega), if_pos rfl, hw, ih (i + 1) (by omega)]
theorem same_calls (A0 : Option Addr) (n0 c0 : Nat) (A1 : Option Addr) (n1 c1 : Nat) (l : List Int) (w : World) (h0 : Rd w A0 n0 l) (h1 : Rd w A1 n1 l) (hc0 : n0 ≤ c0) (hc1 : n1 ≤ c1) (hl : l.length ≤ 1000) :
    Calls Try.prog 27 #[.slice A0 n0 c0, .slice A1 n1 c1] w fun e w' => e = .returned (.bool true) ∧ Below w.heap.size w w' := by
  obtain rfl : l.length = n0 := h0.1
  obtain rfl : l.length = n1 := h1.1
  have hf : PMailFair.depotbook_Same_int.f (l.length + 1) l l = some true := by
    unfold PMailFair.depotbook_Same_int.f
    rw [if_pos rfl]
    exact same_f l hl l.length 0 (by omega)
  exact (PMailFair.depotbook_Same_int.calls (l.length + 1) A0 c0 l A1 c1 l true w h0 hc0 h1 hc1 hf).mono fun e w' ⟨h3, h4⟩ => ⟨h3, h4.below⟩
end Go.Proofs.Ytnfnbcbbiaheeaa.Ml
