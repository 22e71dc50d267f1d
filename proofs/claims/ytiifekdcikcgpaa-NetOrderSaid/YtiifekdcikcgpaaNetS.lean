/- The net's contracts at whole numbers as Go has them; frames compared; the helper 'of'; what a call leaves below. -/
import Derived.Test.YtiifekdcikcgpaaNetP
import Derived.Test.YtiifekdcikcgpaaPNetOrderx2
namespace Go.Proofs.Ytiifekdcikcgpaa.Net
open Go.RowKit Go.Proofs.YtiifekdcikcgpaaW.PrintWords Go.Proofs.YtiifekdcikcgpaaW.PrintLast Go.Proofs.Ytiifekdcikcgpaa.Lib

theorem Is.after {w0 W W' : World} {B g : Nat} {v : Value} {xs : List Fr} (hI : Is W B g v xs) (HB : Below B w0 W) (hm : Mod (fun k => k = g ∨ some k = v.ownBlock) W W') : Below B w0 W' :=
  hm.after HB (Nat.le_of_lt (Nat.lt_of_le_of_lt hI.ge (blk_lt hI.blk))) (fun k hk => hk.elim (fun e => by rw [e]; exact hI.ge) (fun e => own_base hI.row k e.symm))
theorem RIs.after {w0 W W' : World} {B g : Nat} {v : Value} {xs : List Fr} (hI : RIs W B g v xs) (HB : Below B w0 W) (hm : Mod (fun k => k = g ∨ some k = v.ownBlock) W W') : Below B w0 W' :=
  hm.after HB (Nat.le_of_lt (Nat.lt_of_le_of_lt hI.ge (blk_lt hI.blk))) (fun k hk => hk.elim (fun e => by rw [e]; exact hI.ge) (fun e => own_base hI.row k e.symm))
/-- A frame of a number alone. -/
def fr (n : Int) : Fr := ⟨0, 0, 0, n, 0, 0, ⟨#[]⟩, 0, ⟨#[]⟩⟩
theorem of_calls (n : Int) (w : World) : Calls Try.prog 19 #[.int .i64 n] w fun e w' => e = .returned (.agg (cl (fr n)).toArray) ∧ Below w.heap.size w w' :=
  PNetOrder.depotlaw10_of.calls n 0 0 0 n 0 0 ⟨#[]⟩ 0 ⟨#[]⟩ w rfl
theorem eq_in (x y : Fr) (d : Nat) (w : World) : (Op.equalIn (d + 2) 32 (.agg (cl x).toArray) (.agg (cl y).toArray)).run Try.prog w = .ok (x.f0 == y.f0 && (x.f1 == y.f1 && (x.f2 == y.f2 && (x.f3 == y.f3 && (x.f4 == y.f4 && (x.f5 == y.f5 && (x.f6.toList == y.f6.toList && (x.f7 == y.f7 && (x.f8.toList == y.f8.toList))))))))) w :=
  PNetOrder.eqA32 d w x.f0 y.f0 x.f1 y.f1 x.f2 y.f2 x.f3 y.f3 x.f4 y.f4 x.f5 y.f5 x.f6 y.f6 x.f7 y.f7 x.f8 y.f8
theorem eql_self (x : Fr) (w : World) : (binOp .eql 32 (.agg (cl x).toArray) (.agg (cl x).toArray)).run Try.prog w = .ok (.bool true) w := by
  have h := eq_in x x 9998 w
  simp only [beq_self_eq_true, Bool.and_true] at h
  simp only [binOp]
  simp [Op.equal, Op.maxDepth, h]
theorem neq_self (x : Fr) (w : World) : (binOp .neq 32 (.agg (cl x).toArray) (.agg (cl x).toArray)).run Try.prog w = .ok (.bool false) w := by
  have h := eq_in x x 9998 w
  simp only [beq_self_eq_true, Bool.and_true] at h
  simp only [binOp]
  simp [Op.equal, Op.maxDepth, h]

/-- The frames as the printed words have them. -/
def toS (x : Fr) : PNetOrder.S32 := ⟨x.f0, x.f1, x.f2, x.f3, x.f4, x.f5, x.f6, x.f7, x.f8⟩
theorem own_C {w : World} {B n : Nat} {v : Value} {xs : List Fr} (h : w.ownsRow B 32 9 v n (cls xs)) (hn : xs.length = n) : ∃ A c, v = .slice A (xs.map toS).length c ∧ (xs.map toS).length ≤ c ∧ Kd.C PNetOrder.k32 w A (xs.map toS).length (xs.map toS) := by
  subst hn
  have hR : Reps (fun x c => PNetOrder.k32.K w x c) 9 (xs.map toS) (cls xs) := by
    refine ⟨by rw [cls_length, List.length_map], fun j p hj => ?_⟩
    rw [List.getElem?_map] at hj
    obtain ⟨x, hx, rfl⟩ := Option.map_eq_some_iff.1 hj
    have e : ((cls xs).drop (j * 9)).take 9 = cl x := by
      have hjl := (List.getElem?_eq_some_iff.1 hx).1
      apply List.ext_getElem?
      intro i
      rw [List.getElem?_take]
      by_cases hi : i < 9
      · rw [if_pos hi, List.getElem?_drop]
        obtain ⟨u, hu⟩ : ∃ u, (cl x)[i]? = some u := ⟨_, List.getElem?_eq_getElem (by rw [cl_length]; exact hi)⟩
        rw [hu]
        exact flat_at cl 9 cl_length xs j x hx i u hu
      · rw [if_neg hi, List.getElem?_eq_none (by rw [cl_length]; omega)]
    rw [e]
    exact PNetOrder.k32_mk w (toS x)
  obtain ⟨A, c, hv, hr⟩ := own_reads_row h hR (by simp)
  rw [List.length_map]
  refine ⟨A, c, hv, ?_, hr⟩
  subst hv
  exact own_cap h
theorem same_pure (l : List PNetOrder.S32) (hl : l.length ≤ 4000) (d : Nat) : ∀ (i : Nat), i + d = l.length → PNetOrder.api_Frame_23.l0 (d + 1) l l (i : Int) = some true := by
  induction d with
  | zero =>
    intro i hi
    simp only [PNetOrder.api_Frame_23.l0]
    rw [if_neg (by omega)]
  | succ d ih =>
    intro i hi
    rw [PNetOrder.api_Frame_23.l0]
    rw [if_pos (by omega), if_pos (by omega), if_pos (by omega)]
    simp only [beq_self_eq_true, Bool.not_true, Bool.or_false]
    rw [if_neg (by decide), show wrap64 ((i : Int) + 1) = ((i + 1 : Nat) : Int) by unfold wrap64; omega]
    exact ih (i + 1) (by omega)
/-- Same, at two rows of the call's own with the same frames. -/
theorem same_calls (B B' : Nat) (v v' : Value) (xs : List Fr) (w : World) (h : w.ownsRow B 32 9 v xs.length (cls xs)) (h' : w.ownsRow B' 32 9 v' xs.length (cls xs)) (hl : xs.length ≤ 4000) :
    Calls Try.prog 23 #[v, v'] w fun e w' => e = .returned (.bool true) ∧ Below w.heap.size w w' := by
  obtain ⟨A, c, rfl, hc, hC⟩ := own_C h rfl
  obtain ⟨A', c', rfl, hc', hC'⟩ := own_C h' rfl
  refine (PNetOrder.api_Frame_23.calls ((xs.map toS).length + 1) A c _ A' c' _ true w hC hc hC' hc' ?_).mono ?_
  · unfold PNetOrder.api_Frame_23.f
    rw [if_pos rfl]
    exact same_pure _ (by simpa using hl) _ 0 (by omega)
  · rintro e w' ⟨h1, h2⟩
    exact ⟨h1, h2.below⟩

section
variable (B g : Nat) (v : Value) (xs : List Fr) (k : Int) (x : Fr) (w : World)
theorem copyZ (hI : Is w B g v xs) (h0 : 0 ≤ k) (hx : xs[k.toNat]? = some x) (hl : xs.length ≤ 4000) :
    Calls Try.prog 21 #[.pointer (some ⟨g, 0, none⟩), .int .i64 k] w fun e w' => e = .returned (.tuple #[.agg (cl x).toArray, .bool true]) ∧ Below w.heap.size w w' := by
  obtain ⟨n, rfl⟩ := Int.eq_ofNat_of_zero_le h0
  exact copy_in B g v xs n x w hI hx hl
theorem dropZ (hI : Is w B g v xs) (h0 : 0 ≤ k) (hk : k < (xs.length : Int)) (hl : xs.length ≤ 4000) :
    Calls Try.prog 22 #[.pointer (some ⟨g, 0, none⟩), .int .i64 k] w fun e w' => e = .returned (.bool true) ∧ ∃ v', Is w' B g v' (xs.eraseIdx k.toNat) ∧ Mod (fun k => k = g ∨ some k = v.ownBlock) w w' ∧ v'.ownBlock = v.ownBlock := by
  obtain ⟨n, rfl⟩ := Int.eq_ofNat_of_zero_le h0
  exact drop_in B g v xs n w hI (by omega) hl
theorem deliverZ (hI : Is w B g v xs) (h0 : 0 ≤ k) (hx : xs[k.toNat]? = some x) (hl : xs.length ≤ 4000) :
    Calls Try.prog 20 #[.pointer (some ⟨g, 0, none⟩), .int .i64 k] w fun e w' => e = .returned (.tuple #[.agg (cl x).toArray, .bool true]) ∧ ∃ v', Is w' B g v' (xs.eraseIdx k.toNat) ∧ Mod (fun q => q = g ∨ some q = v.ownBlock) w w' ∧ v'.ownBlock = v.ownBlock := by
  obtain ⟨n, rfl⟩ := Int.eq_ofNat_of_zero_le h0
  exact deliver_in B g v xs n x w hI hx hl
theorem pickZ (hI : RIs w B g v xs) (h0 : 0 ≤ k) (hx : xs[k.toNat]? = some x) (hl : xs.length ≤ 4000) :
    Calls Try.prog 27 #[.pointer (some ⟨g, 0, none⟩), .int .i64 k, .bool false] w fun e w' => e = .returned (.tuple #[.agg (cl x).toArray, .bool true]) ∧
      ∃ v', RIs w' B g v' (xs.eraseIdx k.toNat) ∧ Mod (fun k => k = g) w w' ∧ ∀ q, v'.ownBlock = some q → w.heap.size ≤ q := by
  obtain ⟨n, rfl⟩ := Int.eq_ofNat_of_zero_le h0
  exact pick_in B g v xs n x w hI hx hl
theorem pick_keepZ (hI : RIs w B g v xs) (h0 : 0 ≤ k) (hx : xs[k.toNat]? = some x) (hl : xs.length ≤ 4000) :
    Calls Try.prog 27 #[.pointer (some ⟨g, 0, none⟩), .int .i64 k, .bool true] w fun e w' => e = .returned (.tuple #[.agg (cl x).toArray, .bool true]) ∧ Below w.heap.size w w' := by
  obtain ⟨n, rfl⟩ := Int.eq_ofNat_of_zero_le h0
  exact pick_keep B g v xs n x w hI hx hl
end
end Go.Proofs.Ytiifekdcikcgpaa.Net
