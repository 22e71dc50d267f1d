/- Arguments opened: a slice whose elements are structs (of structs) of numbers, texts and truth values: its cells, element by element. No Go in it. -/
import Derived.Test.YtepklobkppdliaaDoorVLib
import Derived.Deep.Slices
namespace Go.Proofs.YtepklobkppdliaaDoor.Open
open Go.RowKit Go.Proofs.YtepklobkppdliaaDoorW.PrintWords Go.Proofs.YtepklobkppdliaaDoor.Lib

/-- A cell's kind. -/
inductive Leaf where
  | int (k : IntKind)
  | bool
  | str
/-- Cells of such kinds. -/
def Fits : List Leaf → List Value → Prop
  | [], cs => cs = []
  | .int k :: l, cs => ∃ x r, cs = .int k x :: r ∧ (Lit.int k x).wf = true ∧ Fits l r
  | .bool :: l, cs => ∃ x r, cs = .bool x :: r ∧ Fits l r
  | .str :: l, cs => ∃ x r, cs = .string x :: r ∧ x.size ≤ maxLen ∧ Fits l r
theorem Fits.length {l : List Leaf} {cs : List Value} (h : Fits l cs) : cs.length = l.length := by
  induction l generalizing cs with
  | nil => rw [show cs = [] from h]; rfl
  | cons a l ih =>
    cases a with
    | int k => obtain ⟨x, r, rfl, _, h⟩ := h; simp [ih h]
    | bool => obtain ⟨x, r, rfl, h⟩ := h; simp [ih h]
    | str => obtain ⟨x, r, rfl, _, h⟩ := h; simp [ih h]
theorem Fits.append {l l' : List Leaf} {cs cs' : List Value} (h : Fits l cs) (h' : Fits l' cs') : Fits (l ++ l') (cs ++ cs') := by
  induction l generalizing cs with
  | nil => rw [show cs = [] from h]; exact h'
  | cons a l ih =>
    cases a with
    | int k => obtain ⟨x, r, rfl, hw, h⟩ := h; exact ⟨x, r ++ cs', rfl, hw, ih h⟩
    | bool => obtain ⟨x, r, rfl, h⟩ := h; exact ⟨x, r ++ cs', rfl, ih h⟩
    | str => obtain ⟨x, r, rfl, hw, h⟩ := h; exact ⟨x, r ++ cs', rfl, hw, ih h⟩
theorem Fits.one {l : List Leaf} {cs : List Value} (h : Fits l cs) : ∀ u ∈ cs, u.oneCell' = true := by
  induction l generalizing cs with
  | nil => rw [show cs = [] from h]; intro u hu; cases hu
  | cons a l ih =>
    cases a with
    | int k => obtain ⟨x, r, rfl, _, h⟩ := h; intro u hu; rcases List.mem_cons.1 hu with rfl | hu; · rfl
               · exact ih h u hu
    | bool => obtain ⟨x, r, rfl, h⟩ := h; intro u hu; rcases List.mem_cons.1 hu with rfl | hu; · rfl
              · exact ih h u hu
    | str => obtain ⟨x, r, rfl, _, h⟩ := h; intro u hu; rcases List.mem_cons.1 hu with rfl | hu; · rfl
             · exact ih h u hu
/-- The kinds of a type's cells, one behind the other. -/
def flat (P : Program) : Nat → TypeId → Option (List Leaf)
  | 0, _ => none
  | d + 1, t =>
    match P.underlying t with
    | some .bool => some [.bool]
    | some (.int k) => some [.int k]
    | some .string => some [.str]
    | some (.struct fs) =>
      (fs.toList.foldlM (fun (acc : List Leaf) f => (flat P d f.type).bind fun l => if f.offset = acc.length ∧ P.cellsOf f.type = l.length then some (acc ++ l) else none) []).bind fun l => if P.cellsOf t = l.length then some l else none
    | _ => none
section
variable {H : Type} {enc : TypeId × Value → H} {P : Program} {w : World} {base : Nat} {spare : Nat → Bool} {held : Bool}
theorem fits_fields (d fuel : Nat) (cs : List Value) (ih : ∀ (t : TypeId) (l : List Leaf) (cs : List Value) (x : DataW H × List MemPlace), flat P d t = some l → DataW.trod enc P w base spare held fuel t cs = some x → Fits l cs) :
    ∀ (fs : List Field) (acc l : List Leaf) (xs : List (DataW H × List MemPlace)),
      fs.foldlM (fun (acc : List Leaf) f => (flat P d f.type).bind fun l => if f.offset = acc.length ∧ P.cellsOf f.type = l.length then some (acc ++ l) else none) acc = some l →
      fs.mapM (fun f => DataW.trod enc P w base spare held fuel f.type ((cs.drop f.offset).take (P.cellsOf f.type))) = some xs → Fits acc (cs.take acc.length) → Fits l (cs.take l.length)
  | [], acc, l, xs, h, _, ha => by
    simp only [List.foldlM_nil] at h
    obtain rfl := Option.some.inj h
    exact ha
  | f :: fs, acc, l, xs, h, hm, ha => by
    rw [List.foldlM_cons] at h
    obtain ⟨acc', h1, h2⟩ := Option.bind_eq_some_iff.1 h
    obtain ⟨lf, h3, h4⟩ := Option.bind_eq_some_iff.1 h1
    by_cases hc : f.offset = acc.length ∧ P.cellsOf f.type = lf.length
    · rw [if_pos hc] at h4
      obtain rfl := Option.some.inj h4
      rw [List.mapM_cons] at hm
      obtain ⟨y, hy, hm2⟩ := Option.bind_eq_some_iff.1 hm
      obtain ⟨ys, hys, _⟩ := Option.bind_eq_some_iff.1 hm2
      have hf := ih f.type lf _ y h3 hy
      rw [hc.1, hc.2] at hf
      refine fits_fields d fuel cs ih fs (acc ++ lf) l ys h2 hys ?_
      have e : cs.take (acc ++ lf).length = cs.take acc.length ++ (cs.drop acc.length).take lf.length := by rw [List.length_append, List.take_add]
      rw [e]
      exact ha.append hf
    · rw [if_neg hc] at h4; cases h4
theorem struct_fields {t : TypeId} {fs : Array Field} {fuel : Nat} {cs : List Value} {x : DataW H × List MemPlace} (ht : P.underlying t = some (.struct fs)) (h : DataW.trod enc P w base spare held (fuel + 1) t cs = some x) :
    cs.length = P.cellsOf t ∧ ∃ xs, fs.toList.mapM (fun f => DataW.trod enc P w base spare held fuel f.type ((cs.drop f.offset).take (P.cellsOf f.type))) = some xs := by
  unfold DataW.trod at h
  rw [ht] at h
  simp only at h
  by_cases hc : cs.length = P.cellsOf t
  · rw [if_pos hc] at h
    obtain ⟨xs, h1, _⟩ := Option.map_eq_some_iff.1 h
    exact ⟨hc, xs, h1⟩
  · rw [if_neg hc] at h; cases h
theorem fits_of_trod : ∀ (d fuel : Nat) (t : TypeId) (l : List Leaf) (cs : List Value) (x : DataW H × List MemPlace), flat P d t = some l → DataW.trod enc P w base spare held fuel t cs = some x → Fits l cs
  | 0, _, _, _, _, _, h, _ => by cases h
  | _, 0, _, _, _, _, _, h => by cases h
  | d + 1, fuel + 1, t, l, cs, x, hl, h => by
    unfold flat at hl
    cases hu : P.underlying t with
    | none => rw [hu] at hl; cases hl
    | some u =>
      rw [hu] at hl
      cases u with
      | bool =>
        obtain rfl := Option.some.inj hl
        obtain ⟨b, rfl, _⟩ := DataW.trod_bool hu h
        exact ⟨b, [], rfl, rfl⟩
      | int k =>
        obtain rfl := Option.some.inj hl
        obtain ⟨b, rfl, _, hw⟩ := DataW.trod_int hu h
        exact ⟨b, [], rfl, hw, rfl⟩
      | string =>
        obtain rfl := Option.some.inj hl
        obtain ⟨b, rfl, _, hw⟩ := DataW.trod_string hu h
        exact ⟨b, [], rfl, hw, rfl⟩
      | struct fs =>
        obtain ⟨l', h1, h2⟩ := Option.bind_eq_some_iff.1 hl
        obtain ⟨hlen, xs, hm⟩ := struct_fields hu h
        by_cases hc : P.cellsOf t = l'.length
        · rw [if_pos hc] at h2
          obtain rfl := Option.some.inj h2
          have := fits_fields d fuel cs (fun t l cs x => fits_of_trod d fuel t l cs x) fs.toList [] l' xs h1 hm rfl
          rwa [List.take_of_length_le (by omega)] at this
        · rw [if_neg hc] at h2; cases h2
      | _ => cases hl
end
/-- A slice that came in: its cells, element by element. -/
def Arg {α : Type} (cl : α → List Value) (w : World) (A : Option Addr) (n : Nat) (xs : List α) : Prop :=
  xs.length = n ∧ n ≤ 9223372036854775807 ∧ (0 < n → ∃ b o, A = some ⟨b, o, none⟩ ∧ w.rangeAt b o (xs.flatMap cl))
section
variable {α : Type} {cl : α → List Value} {w W : World} {A : Option Addr} {n : Nat} {xs : List α}
theorem Arg.below (h : Arg cl w A n xs) (hb : Below w.heap.size w W) : Arg cl W A n xs :=
  ⟨h.1, h.2.1, fun hn => by
    obtain ⟨b, o, e, hr⟩ := h.2.2 hn
    exact ⟨b, o, e, fun j v hv => pw_cell_below hb (hr j v hv)⟩⟩
/-- Element i. -/
theorem Arg.at_ {s : Nat} (hs : ∀ x, (cl x).length = s) (h : Arg cl w A n xs) (i : Nat) (x : α) (hx : xs[i]? = some x) : ∃ b o, A = some ⟨b, o, none⟩ ∧ w.rangeAt b (o + i * s) (cl x) := by
  have hi := (List.getElem?_eq_some_iff.1 hx).1
  obtain ⟨b, o, e, hr⟩ := h.2.2 (by have := h.1; omega)
  refine ⟨b, o, e, fun j v hv => ?_⟩
  have := hr (i * s + j) v (flat_at cl s hs xs i x hx j v hv)
  rwa [← Nat.add_assoc] at this
end
section
variable {H : Type} {enc : TypeId × Value → H} {P : Program} {w : World} {spare : Nat → Bool} {held : Bool}
theorem no_spot {w : World} {a : Addr} {v : Value} (h : w.cell? a = some v) : a.spot = none := by
  unfold World.cell? at h
  cases hs : a.spot with
  | none => rfl
  | some q =>
    rw [hs] at h
    split at h <;> simp at h
/-- A slice of flat elements, opened. 'mk': an element out of its cells. -/
theorem open_flat {α : Type} (cl : α → List Value) (l : List Leaf) (mk : ∀ cs, Fits l cs → ∃ a, cs = cl a) (hs : ∀ x, (cl x).length = l.length) (hl0 : 0 < l.length)
    {t e d fuel : Nat} {A : Option Addr} {len cap : Nat} {x : DataW H × List MemPlace} (ht : P.underlying t = some (.slice e)) (hf : flat P d e = some l) (hc : P.cellsOf e = l.length)
    (h : DataW.trod enc P w 0 spare held fuel t [.slice A len cap] = some x) : len ≤ cap ∧ ∃ xs, Arg cl w A len xs := by
  rcases Deep.open_slice ht h with ⟨hcs, _⟩ | ⟨a, len', cap', m, n, D, Pl, hcs, hb, hle, hm, hmm, _, hx⟩
  · simp only [List.cons.injEq, and_true, Value.slice.injEq] at hcs
    obtain ⟨rfl, rfl, rfl⟩ := hcs
    exact ⟨Nat.le_refl _, [], rfl, by omega, fun h => absurd h (Nat.lt_irrefl 0)⟩
  · simp only [List.cons.injEq, and_true, Value.slice.injEq] at hcs
    obtain ⟨rfl, rfl, rfl⟩ := hcs
    refine ⟨hle, ?_⟩
    have hlm : len ≤ m := by rw [hmm]; split <;> omega
    have key : ∀ i, i < len → ∃ y : α, ∀ j v, (cl y)[j]? = some v → w.cell? (a.add (i * l.length + j)) = some v := by
      intro i hi
      obtain ⟨cs', h1, h2⟩ := hx i (by omega)
      obtain ⟨y, rfl⟩ := mk cs' (fits_of_trod d n e l cs' _ hf h2)
      refine ⟨y, fun j v hv => ?_⟩
      rw [hc] at h1
      have hj := (List.getElem?_eq_some_iff.1 hv).1
      rw [hs] at hj
      have := (World.cells?_some h1).2.2 j (by omega)
      rw [Deep.add_add] at this
      rw [this]
      exact hv
    have : ∀ k, k ≤ len → ∃ xs : List α, xs.length = k ∧ ∀ j v, (xs.flatMap cl)[j]? = some v → w.cell? (a.add j) = some v := by
      intro k
      induction k with
      | zero => intro _; exact ⟨[], rfl, fun j v hv => by simp at hv⟩
      | succ k ih =>
        intro hk
        obtain ⟨xs, h1, h2⟩ := ih (by omega)
        obtain ⟨y, hy⟩ := key k (by omega)
        refine ⟨xs ++ [y], by simp [h1], fun j v hv => ?_⟩
        rw [List.flatMap_append, List.flatMap_singleton] at hv
        have hfl := flat_length cl l.length hs xs
        by_cases hj : j < (xs.flatMap cl).length
        · rw [List.getElem?_append_left hj] at hv
          exact h2 j v hv
        · rw [List.getElem?_append_right (by omega)] at hv
          have := hy _ v hv
          rw [hfl, h1] at this
          rwa [show k * l.length + (j - k * l.length) = j by rw [hfl, h1] at hj; omega] at this
    obtain ⟨xs, h1, h2⟩ := this len (Nat.le_refl _)
    refine ⟨xs, h1, by unfold maxLen at hm; omega, fun hn => ?_⟩
    have hfl := flat_length cl l.length hs xs
    have hp : 0 < (xs.flatMap cl).length := by rw [hfl, h1]; exact Nat.mul_pos hn hl0
    have hsp := no_spot (h2 0 _ (List.getElem?_eq_getElem hp))
    have ha : a.add 0 = a := by unfold Addr.add; simp
    rw [ha] at hsp
    obtain ⟨b, o, s⟩ := a
    have hs0 : s = none := hsp
    subst hs0
    refine ⟨b, o, rfl, fun j v hv => ?_⟩
    have := h2 j v hv
    rwa [Addr.add_mid] at this
end
end Go.Proofs.YtepklobkppdliaaDoor.Open
