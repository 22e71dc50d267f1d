/- The model: its list is sorted by the library's sort. -/
import Derived.Test.YtepklobkppdliaaDoorUMp1
import Derived.Test.YtepklobkppdliaaDoorUSortP
import Derived.Test.YtepklobkppdliaaDoorUShelf
namespace Go.Proofs.YtepklobkppdliaaDoor.Mp
open Go.RowKit Go.Proofs.YtepklobkppdliaaDoorW.PrintWords Go.Proofs.YtepklobkppdliaaDoorW.PrintLast Go.Proofs.YtepklobkppdliaaDoorW.PrintMore Go.Proofs.YtepklobkppdliaaDoor.Lib Go.Proofs.YtepklobkppdliaaDoor.Open Go.Proofs.YtepklobkppdliaaDoor.Md
open Go.Sort (grow putRow mapBlock putCells PermIn SortedIn SWO)
instance : Inhabited Ent := ⟨zent⟩
def cf (x y : Ent) : Int := Go.Lib.compareBytes x.key.data.toList y.key.data.toList
theorem cmp_less : ∀ a b : List UInt8, decide (Go.Lib.compareBytes a b < 0) = Op.bytesLess a b
  | [], [] => by simp [Go.Lib.compareBytes, Op.bytesLess]
  | [], _ :: _ => by simp [Go.Lib.compareBytes, Op.bytesLess]
  | _ :: _, [] => by simp [Go.Lib.compareBytes, Op.bytesLess]
  | a :: x, b :: y => by
    unfold Go.Lib.compareBytes Op.bytesLess
    by_cases h : a < b
    · simp [h]
    · by_cases h2 : b < a
      · have : ¬ a = b := fun e => by subst e; exact h h2
        simp [h, h2, this]
      · have : a = b := UInt8.le_antisymm (UInt8.not_lt.1 h2) (UInt8.not_lt.1 h)
        subst this
        simp [h, cmp_less x y]
theorem lt_kl (x y : Ent) : ltOf cf x y = kl x.key y.key := by
  unfold ltOf cf kl
  rw [cmp_less, Go.Lib.toList_data, Go.Lib.toList_data]
theorem swo : SWO (ltOf cf) where
  irrefl x := by rw [lt_kl]; exact kl_self _
  trans x y z h1 h2 := by rw [lt_kl] at *; exact kl_trans h1 h2
  ntrans x y z h1 h2 := by
    rw [lt_kl] at *
    cases h : kl x.key z.key
    · rfl
    · cases h3 : kl y.key x.key
      · have e := kl_total h1 h3
        rw [e, h2] at h
        cases h
      · rw [kl_trans h3 h] at h2
        cases h2
set_option maxHeartbeats 1000000 in
/-- The closure of List. -/
theorem cmp50 (x y : Ent) (W : World) : Calls Tryd.prog 50 #[.agg #[.string x.key, .int .i64 x.fl, .int .i64 x.dl, .string x.val, .int .i64 x.cas], .agg #[.string y.key, .int .i64 y.fl, .int .i64 y.dl, .string y.val, .int .i64 y.cas]] W fun e w' => e = .returned (.int .i64 (cf x y)) ∧ ∃ q os', w' = grow (W.drewN q) os' := by
  have hcon := fun W' => Tryd.strings_Compare x.key y.key W'
  have e0 : Go.Lib.compareBytes x.key.data.toList y.key.data.toList = cf x y := rfl
  rw [e0] at hcon
  obtain ⟨r, hr⟩ : ∃ r, r = cf x y := ⟨_, rfl⟩
  rw [← hr] at hcon ⊢
  clear e0 hr
  go_enter Tryd.func50, Tryd.ntmps50
  go_wp2_with (go_at_call 51; refine (hcon _).mono ?_; rintro e w' ⟨rfl, rfl⟩)
  go_ret
  exact ⟨rfl, 0, _, by rw [Go.Sort.alloc_eq_grow, Go.Sort.alloc_eq_grow, Go.Sort.grow_grow]; rfl⟩
/-- The flat row, cell by cell. -/
theorem flat_row (d : Array Ent) : Go.Sort.flatK Rm.ecl 5 d = (d.toList.flatMap Rm.ecl).toArray := by
  apply Array.ext_getElem?
  intro j
  have e0 : (d.toList.flatMap Rm.ecl).toArray[j]? = (d.toList.flatMap Rm.ecl)[j]? := List.getElem?_toArray ..
  rw [e0]
  by_cases hj : j < d.size * 5
  · have ha : j / 5 < d.size := Nat.div_lt_of_lt_mul (by omega)
    have hb : j % 5 < 5 := Nat.mod_lt j (by decide)
    have hx : d.toList[j / 5]? = some d[j / 5]! := by rw [Array.getElem?_toList, getElem!_pos d _ ha]; exact Array.getElem?_eq_getElem ha
    obtain ⟨y, hy⟩ : ∃ y : Ent, y = d[j / 5]! := ⟨_, rfl⟩
    have hl : j % 5 < (Rm.ecl y).length := by rw [Rm.ecl_len]; exact hb
    have hc : (Rm.ecl y)[j % 5]? = some (Rm.ecl y)[j % 5]! := by rw [getElem!_pos (Rm.ecl y) (j % 5) hl]; exact List.getElem?_eq_getElem hl
    have h := flat_at Rm.ecl 5 Rm.ecl_len d.toList _ y (by rw [hy]; exact hx) _ _ hc
    rw [Nat.div_add_mod' j 5] at h
    have hf : j < (Go.Sort.flatK Rm.ecl 5 d).size := by rw [Go.Sort.size_flatK]; exact hj
    have hg := Go.Sort.get_flatK Rm.ecl 5 d j hj
    rw [← hy] at hg
    rw [h, ← hg, getElem!_pos _ j hf]
    exact Array.getElem?_eq_getElem hf
  · rw [Array.getElem?_eq_none (by rw [Go.Sort.size_flatK]; omega), List.getElem?_eq_none (by rw [flat_length Rm.ecl 5 Rm.ecl_len, Array.length_toList]; omega)]
theorem sort_heap (w : World) (g m : Nat) (F : Array Value) (os : Array Obj) : Mod (fun k => k = g) w (grow (putRow id (Go.Sort.ahead w m) g 0 F) os) ∧ ∀ cur t, w.heap[g]? = some (.cells cur t (0, 0)) → (grow (putRow id (Go.Sort.ahead w m) g 0 F) os).heap[g]? = some (.cells (putCells id 0 F cur) t (0, 0)) := by
  have hs : (putRow id (Go.Sort.ahead w m) g 0 F).heap.size = w.heap.size := by simp [putRow, mapBlock, Go.Sort.ahead]
  have hg : ∀ k, k < w.heap.size → (grow (putRow id (Go.Sort.ahead w m) g 0 F) os).heap[k]? = (putRow id (Go.Sort.ahead w m) g 0 F).heap[k]? := fun k hk => by
    show ((putRow id (Go.Sort.ahead w m) g 0 F).heap ++ os)[k]? = _
    rw [Array.getElem?_append_left (by rw [hs]; exact hk)]
  have hp : ∀ k, (putRow id (Go.Sort.ahead w m) g 0 F).heap[k]? = if g = k then w.heap[k]?.map (Go.Sort.onCells (putCells id 0 F)) else w.heap[k]? := fun k => by
    show (w.heap.modify g (Go.Sort.onCells (putCells id 0 F)))[k]? = _
    rw [Array.getElem?_modify]
  refine ⟨⟨rfl, rfl, rfl, ?_, fun k hk hn => ?_⟩, fun cur t h => ?_⟩
  · show w.heap.size ≤ ((putRow id (Go.Sort.ahead w m) g 0 F).heap ++ os).size
    rw [Array.size_append, hs]
    omega
  · rw [hg k hk, hp, if_neg (fun e => hn e.symm)]
  · rw [hg g (blk_lt h), hp, if_pos rfl, h]
    rfl
theorem put_take (F cur : Array Value) (h : F.size ≤ cur.size) : (putCells id 0 F cur).toList.take F.size = F.toList ∧ (putCells id 0 F cur).size = cur.size := by
  have hsz : (putCells id 0 F cur).size = cur.size := by unfold putCells; simp
  refine ⟨?_, hsz⟩
  apply List.ext_getElem?
  intro j
  by_cases hj : j < F.size
  · rw [List.getElem?_take, if_pos hj, Array.getElem?_toList, Array.getElem?_toList]
    unfold putCells
    rw [Array.getElem?_mapIdx, Array.getElem?_eq_getElem (by omega), Option.map_some, if_pos ⟨Nat.zero_le _, by omega⟩, Nat.sub_zero, Array.getElem?_eq_getElem hj, getElem!_pos F j hj]
    rfl
  · rw [List.getElem?_eq_none (by rw [List.length_take, Array.length_toList, hsz]; omega), List.getElem?_eq_none (by rw [Array.length_toList]; omega)]
theorem sort_own {w : World} {B g c n m : Nat} {xs : List Value} {d : Array Ent} {os : Array Obj} (h : w.ownsRow B 38 5 (.slice (some ⟨g, 0, none⟩) n c) n xs) (hd : d.size = n) :
    (sortWorldK Rm.ecl 5 w g 0 m d os).ownsRow B 38 5 (.slice (some ⟨g, 0, none⟩) n c) n (d.toList.flatMap Rm.ecl) ∧ Mod (fun k => k = g) w (sortWorldK Rm.ecl 5 w g 0 m d os) := by
  unfold sortWorldK Go.Sort.putRowK
  obtain ⟨h1, h2⟩ := sort_heap w g m (Go.Sort.flatK Rm.ecl 5 d) os
  refine ⟨?_, h1⟩
  rcases h.2 with ⟨e, _⟩ | ⟨g', cap, cur, e, hg, hh, hn, hc, hs, ht⟩
  · cases e
  · injection e with e1 _ e3
    injection e1 with e1
    injection e1 with e1
    subst e1 e3
    have hF : (Go.Sort.flatK Rm.ecl 5 d).size = n * 5 := by rw [Go.Sort.size_flatK, hd]
    obtain ⟨p1, p2⟩ := put_take (Go.Sort.flatK Rm.ecl 5 d) cur (by rw [hF, hs]; exact Nat.mul_le_mul_right 5 hn)
    refine ⟨by rw [flat_length Rm.ecl 5 Rm.ecl_len, Array.length_toList, hd], .inr ⟨g, c, _, rfl, hg, h2 cur 38 hh, hn, hc, by rw [p2, hs], ?_⟩⟩
    rw [hF] at p1
    rw [p1, flat_row]
/-- What the row holds, in the sort's words. -/
theorem holds_own {w : World} {B g c n : Nat} {xs : List Ent} (h : w.ownsRow B 38 5 (.slice (some ⟨g, 0, none⟩) n c) n (xs.flatMap Rm.ecl)) : Go.Sort.HoldsK Rm.ecl 5 w g 0 xs.toArray := by
  rcases h.2 with ⟨e, _⟩ | ⟨g', cap, cur, e, hg, hh, hn, hc, hs, ht⟩
  · cases e
  · injection e with e1 _ e3
    injection e1 with e1
    injection e1 with e1
    subst e1 e3
    intro j hj
    refine ⟨?_, blk_frozen hh _⟩
    rw [blk_cell hh, Nat.zero_add]
    rw [flat_row] at hj ⊢
    have hl : j < (xs.flatMap Rm.ecl).length := by simpa using hj
    obtain ⟨u, hu⟩ : ∃ u, (xs.flatMap Rm.ecl)[j]? = some u := ⟨_, List.getElem?_eq_getElem hl⟩
    have e5 : (xs.toArray.toList.flatMap Rm.ecl).toArray[j]? = some u := (List.getElem?_toArray ..).trans hu
    rw [Array.getElem?_eq_getElem hj] at e5
    have e3 := hu
    rw [← ht, List.getElem?_take] at e3
    split at e3
    · rw [Array.getElem?_toList] at e3
      rw [e3, getElem!_pos _ j hj]
      exact e5.symm
    · cases e3
theorem pair_of {d : Array Ent} (h : SortedIn (ltOf cf) 0 d.size d) : d.toList.Pairwise (fun a b => kl b.key a.key = false) := by
  rw [List.pairwise_iff_getElem]
  intro i j hi hj hij
  rw [Array.length_toList] at hi hj
  have := h i j (Nat.zero_le _) hij hj
  rw [lt_kl, getElem!_pos d j hj, getElem!_pos d i hi] at this
  simpa using this
/-- The sort of a row of entries. -/
theorem sort_calls (B g n c : Nat) (xs : List Ent) (w : World) (h : w.ownsRow B 38 5 (.slice (some ⟨g, 0, none⟩) n c) n (xs.flatMap Rm.ecl)) (hx : xs.length = n) (hsz : n ≤ 1000000) :
    Calls Tryd.prog 49 #[.slice (some ⟨g, 0, none⟩) n c, .func (.func 50) #[] #[]] w fun e w' => e = .returned (.tuple #[]) ∧ ∃ ys : List Ent, ys.Perm xs ∧ ys.Pairwise (fun a b => kl b.key a.key = false) ∧
      w'.ownsRow B 38 5 (.slice (some ⟨g, 0, none⟩) n c) n (ys.flatMap Rm.ecl) ∧ Mod (fun k => k = g) w w' := by
  have eg : ∀ args w, (callFunc 50 args).run Tryd.prog w = .ok (.enter 50 args) w := enters_of Tryd.func50 (by kernel_rfl) rfl
  have hg : g < w.heap.size := own_lt h g rfl
  have hs : xs.toArray.size = n := by simpa using hx
  have hcon := AnyQ.slices_SortFunc Tryd.sortEnt 5 Tryd.isAgg38 Tryd.sizeOf38 Rm.ecl Rm.ecl_len (fun x u hu => Rm.ecl_one x u hu) cf swo 50 #[] g 0 c xs.toArray w eg (fun _ _ _ _ x y => cmp50 x y _) (holds_own h) hg (by rw [hs]; omega)
  rw [hs] at hcon
  change Calls Tryd.prog 49 _ _ _ at hcon
  refine hcon.mono ?_
  rintro e w' ⟨rfl, d', m, os, ⟨p1, _, p3⟩, hso, rfl⟩
  rw [hs] at p1
  obtain ⟨o1, o2⟩ := sort_own (m := m) (os := os) h p1
  refine ⟨rfl, d'.toList, ?_, ?_, o1, o2⟩
  · have e1 : d'.extract 0 n = d' := by rw [← p1]; exact Array.extract_size
    have e2 : xs.toArray.extract 0 n = xs.toArray := by rw [← hs]; exact Array.extract_size
    rw [e1, e2] at p3
    simpa using p3
  · refine pair_of ?_
    rw [p1]
    exact hso
/-- A sorted row of a map's entries. -/
theorem rel_of_sorted {f : ByteArray → Option Ent} {xs ys : List Ent} (hp : ys.Perm xs) (hs : ys.Pairwise (fun a b => kl b.key a.key = false)) (hn : xs.Pairwise (fun a b => a.key ≠ b.key)) (hm : ∀ k e, f k = some e ↔ (e ∈ xs ∧ e.key = k)) : Rel f ys := by
  refine ⟨?_, fun k e => by rw [hm, hp.mem_iff]⟩
  have hn2 : ys.Pairwise (fun a b => a.key ≠ b.key) := hp.symm.pairwise hn (fun h => Ne.symm h)
  refine (List.pairwise_and_iff.2 ⟨hs, hn2⟩).imp fun {a b} h => ?_
  cases h2 : kl a.key b.key
  · exact absurd (kl_total h2 h.1) h.2
  · rfl
end Go.Proofs.YtepklobkppdliaaDoor.Mp
