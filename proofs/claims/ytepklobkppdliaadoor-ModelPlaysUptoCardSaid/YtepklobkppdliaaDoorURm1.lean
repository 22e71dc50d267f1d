/- The document model: a row of entries. -/
import Derived.Test.YtepklobkppdliaaDoorUAd
import Derived.Deep.LoopGhost
import Derived.WalkLawsBesides
namespace Go.Proofs.YtepklobkppdliaaDoor.Rm
open Go.RowKit Go.Proofs.YtepklobkppdliaaDoorW.PrintWords Go.Proofs.YtepklobkppdliaaDoorW.PrintLast Go.Proofs.YtepklobkppdliaaDoorW.PrintMore Go.Proofs.YtepklobkppdliaaDoor.Lib Go.Proofs.YtepklobkppdliaaDoor.Open Go.Proofs.YtepklobkppdliaaDoor.Md
/-- An entry's cells in a row. -/
def ecl (e : Ent) : List Value := [.string e.key, .int .i64 e.fl, .int .i64 e.dl, .string e.val, .int .i64 e.cas]
theorem ecl_len (e : Ent) : (ecl e).length = 5 := rfl
theorem ecl_one (e : Ent) : ∀ u ∈ ecl e, u.oneCell' = true := by simp [ecl, Value.oneCell']
theorem info38 : (Tryd.prog.info? 38).map (fun i => (i.zero, i.size, i.bytes)) = some (some (.agg #[.string ⟨#[]⟩, .int .i64 0, .int .i64 0, .string ⟨#[]⟩, .int .i64 0]), 5, 56) := by kernel_rfl
/-- The document's model at block m: a row of entries. -/
structure Rm (w : World) (B m : Nat) (v : Value) (L : List Ent) : Prop where
  blk : w.heap[m]? = some (.cells #[v] 75 (0, 0))
  ge : B ≤ m
  row : w.ownsRow B 38 5 v L.length (L.flatMap ecl)
section
variable {w W : World} {B m : Nat} {v : Value} {L : List Ent}
theorem Rm.below (h : Rm w B m v L) (hb : Below w.heap.size w W) : Rm W B m v L := ⟨(hb.block _ (blk_lt h.blk)).trans h.blk, h.ge, pw_own_below h.row hb⟩
theorem Rm.lt (h : Rm w B m v L) : m < w.heap.size := blk_lt h.blk
theorem Rm.ne (h : Rm w B m v L) : ∀ q, v.ownBlock = some q → ¬ q = m := fun q hq e => by
  obtain ⟨c, hc⟩ := own_typed h.row q hq
  rw [e, h.blk] at hc
  injection hc with hc
  injection hc with _ hc
  exact absurd hc (by decide)
theorem Rm.range {b n c : Nat} (h : Rm w B m (.slice (some ⟨b, 0, none⟩) n c) L) (k : Nat) (x : Ent) (hx : L[k]? = some x) : w.rangeAt b (k * 5) (ecl x) := by
  have hn : n = L.length := by
    rcases h.row.2 with ⟨h1, _⟩ | ⟨_, _, _, h1, _⟩
    · simp at h1
    · injection h1
  subst hn
  have hk := (List.getElem?_eq_some_iff.1 hx).1
  refine range_of_own h.row _ _ (fun j u hu => flat_at ecl 5 ecl_len L k x hx j u hu) ?_
  rw [ecl_len]; omega
end
/-- The place of a key: the first that is not below it. -/
def placeOf (key : ByteArray) : List Ent → Nat
  | [] => 0
  | e :: l => if Op.bytesLess e.key.toList key.toList then placeOf key l + 1 else 0
theorem place_le (key : ByteArray) : ∀ L, placeOf key L ≤ L.length
  | [] => Nat.le_refl _
  | e :: l => by
    unfold placeOf
    split
    · have := place_le key l; simp; omega
    · omega
theorem place_at {key : ByteArray} : ∀ (L : List Ent) (i : Nat), (∀ j x, j < i → L[j]? = some x → Op.bytesLess x.key.toList key.toList = true) → i ≤ L.length → (∀ x, L[i]? = some x → Op.bytesLess x.key.toList key.toList = false) → placeOf key L = i
  | [], i, _, h2, _ => by simp at h2; subst h2; rfl
  | e :: l, 0, _, _, h3 => by
    unfold placeOf
    rw [if_neg (by rw [h3 e rfl]; decide)]
  | e :: l, i + 1, h1, h2, h3 => by
    unfold placeOf
    rw [if_pos (h1 0 e (by omega) rfl), place_at l i (fun j x hj hx => h1 (j + 1) x (by omega) (by simpa using hx)) (by simpa using h2) (fun x hx => h3 x (by simpa using hx))]
def lv (dl now : Int) : Bool := dl == 0 || (decide (0 < dl) && decide (now < dl))
/-- Is the key there, and live? -/
def isAt (key : ByteArray) (now : Int) (L : List Ent) : Bool := match L[placeOf key L]? with
  | some x => (x.key.toList == key.toList) && lv x.dl now
  | none => false
set_option maxHeartbeats 8000000 in
set_option maxRecDepth 100000 in
theorem at_calls (B m : Nat) (v : Value) (L : List Ent) (key : ByteArray) (now : Int) (w : World) (h : Rm w B m v L) (hl : L.length ≤ 1000000) :
    Calls Tryd.prog 47 #[.pointer (some ⟨m, 0, none⟩), .string key, .int .i64 now] w fun e w' => e = .returned (.tuple #[.int .i64 (placeOf key L : Int), .bool (isAt key now L)]) ∧ w = w' := by
  obtain ⟨A, c, rfl⟩ := own_slice h.row
  have hc0 : w.cell? ⟨m, 0, none⟩ = some (.slice A L.length c) := blk_cell h.blk 0
  have HR := Aside0.mk h
  obtain ⟨N, hN⟩ : ∃ N, N = L.length := ⟨_, rfl⟩
  have HN := Aside0.mk hN
  have hl1 : (N : Int) ≤ 1000000 := by omega
  rw [← hN] at hc0
  clear h hl hN
  go_enter Tryd.func47, Tryd.ntmps47
  go_wp2
  go_loopg [8] N (fun R s wr => ∃ i : Nat, i + R = L.length ∧ s = .int .i64 (i : Int) ∧ (∀ j x, j < i → L[j]? = some x → Op.bytesLess x.key.toList key.toList = true) ∧ wr = w)
  case atStart => exact ⟨0, by rw [HN.out]; omega, rfl, fun j x hj => absurd hj (Nat.not_lt_zero _), rfl⟩
  case round =>
    obtain ⟨i, hi, rfl, hall, rfl⟩ := hrel
    have HI := Aside0.mk hi
    have HA := Aside0.mk hall
    by_cases hlt : i < N
    · obtain ⟨x, hx⟩ : ∃ x, L[i]? = some x := ⟨_, List.getElem?_eq_getElem (by have := HN.out; omega)⟩
      obtain ⟨b, c2, e, hbb⟩ := HR.out.row.form (by have := HN.out; omega)
      injection e with e1 e2 e3
      subst e1 e3
      have hr := HR.out.range i x hx
      have ck : wr.cell? ⟨b, i * 5, none⟩ = some (.string x.key) := hr 0 _ rfl
      have cd : wr.cell? ⟨b, i * 5 + 2, none⟩ = some (.int .i64 x.dl) := hr 2 _ rfl
      have r1 : decide ((i : Int) < (N : Int)) = true := decide_eq_true (by omega)
      have r2 : (i : Int) < (N : Int) := by omega
      have HX := Aside0.mk hx
      clear hr hi hall hx hlt hbb e2
      cases hb : Op.bytesLess x.key.toList key.toList
      · have HP := Aside0.mk (show placeOf key L = i from place_at L i HA.out (by have := HI.out; omega) (fun y hy => by rw [HX.out] at hy; rw [← Option.some.inj hy]; exact hb))
        have HV := Aside0.mk (show isAt key now L = ((x.key.toList == key.toList) && lv x.dl now) by unfold isAt; rw [HP.out, HX.out])
        cases hk : (x.key.toList == key.toList)
        · have HV2 := Aside0.mk (show isAt key now L = false by rw [HV.out, hk]; rfl)
          go_wp2
          go_ret2
          exact ⟨by rw [HP.out, HV2.out]; rfl, rfl⟩
        · cases hd : (x.dl == 0)
          · cases hp : decide (0 < x.dl)
            · have HV2 := Aside0.mk (show isAt key now L = false by rw [HV.out, hk]; unfold lv; rw [hd, hp]; rfl)
              go_wp2
              go_ret2
              exact ⟨by rw [HP.out, HV2.out]; first | rfl | (rw [hd]; rfl), rfl⟩
            · have HV2 := Aside0.mk (show isAt key now L = decide (now < x.dl) by rw [HV.out, hk]; unfold lv; rw [hd, hp]; simp)
              go_wp2
              go_ret2
              exact ⟨by rw [HP.out, HV2.out]; first | rfl | (rw [hd]; rfl), rfl⟩
          · have HV2 := Aside0.mk (show isAt key now L = true by rw [HV.out, hk]; unfold lv; rw [hd]; rfl)
            go_wp2
            go_ret2
            exact ⟨by rw [HP.out, HV2.out]; rfl, rfl⟩
      · have HA2 := Aside0.mk (show ∀ j y, j < i + 1 → L[j]? = some y → Op.bytesLess y.key.toList key.toList = true from fun j y hj hy => by
          by_cases e : j = i
          · subst e
            rw [HX.out] at hy
            rw [← Option.some.inj hy]
            exact hb
          · exact HA.out j y (by omega) hy)
        go_wp2
        go_roundg (N - (i + 1))
        case measure => have := HI.out; have := HN.out; omega
        case rel => exact ⟨i + 1, by have := HI.out; have := HN.out; omega, by go_num, HA2.out, rfl⟩
    · obtain rfl : i = N := by have := HN.out; omega
      have r1 : decide ((i : Int) < (i : Int)) = false := decide_eq_false (by omega)
      have HP := Aside0.mk (show placeOf key L = i from place_at L i HA.out (by have := HN.out; omega) (fun y hy => by have := (List.getElem?_eq_some_iff.1 hy).1; have := HN.out; omega))
      have HV := Aside0.mk (show isAt key now L = false by unfold isAt; rw [HP.out, List.getElem?_eq_none (by have := HN.out; omega)])
      clear hi hall hlt
      go_wp2
      go_ret2
      exact ⟨by rw [HP.out, HV.out]; rfl, rfl⟩
end Go.Proofs.YtepklobkppdliaaDoor.Rm
