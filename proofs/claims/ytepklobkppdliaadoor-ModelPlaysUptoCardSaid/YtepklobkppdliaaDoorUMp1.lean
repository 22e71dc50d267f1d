/- The model beside the document's: a map and a sorted row with the same entries. -/
import Derived.Test.YtepklobkppdliaaDoorURm6
import Derived.Lib.Bytealg
namespace Go.Proofs.YtepklobkppdliaaDoor.Mp
open Go.RowKit Go.Proofs.YtepklobkppdliaaDoor.Md
open Go.Proofs.YtepklobkppdliaaDoor.Rm (placeOf findOf forgetL setL isAt lv place_at find_at find_le place_le)
/-- Key by key. -/
def kl (a b : ByteArray) : Bool := Op.bytesLess a.toList b.toList
theorem less_self : ∀ x : List UInt8, Op.bytesLess x x = false
  | [] => rfl
  | a :: x => by
    unfold Op.bytesLess
    rw [less_self x]
    simp
theorem less_trans : ∀ x y z : List UInt8, Op.bytesLess x y = true → Op.bytesLess y z = true → Op.bytesLess x z = true
  | x, [], z, h, _ => by cases x <;> cases h
  | x, b :: y, [], _, h => by cases h
  | [], b :: y, c :: z, _, _ => rfl
  | a :: x, b :: y, c :: z, h1, h2 => by
    unfold Op.bytesLess at h1 h2 ⊢
    simp only [Bool.or_eq_true, decide_eq_true_eq, Bool.and_eq_true, beq_iff_eq] at h1 h2 ⊢
    rcases h1 with h1 | ⟨rfl, h1⟩
    · rcases h2 with h2 | ⟨rfl, h2⟩
      · exact .inl (UInt8.lt_trans h1 h2)
      · exact .inl h1
    · rcases h2 with h2 | ⟨rfl, h2⟩
      · exact .inl h2
      · exact .inr ⟨rfl, less_trans x y z h1 h2⟩
theorem less_total : ∀ x y : List UInt8, Op.bytesLess x y = false → Op.bytesLess y x = false → x = y
  | [], [], _, _ => rfl
  | [], _ :: _, h, _ => by cases h
  | _ :: _, [], _, h => by cases h
  | a :: x, b :: y, h1, h2 => by
    unfold Op.bytesLess at h1 h2
    simp only [Bool.or_eq_false_iff, decide_eq_false_iff_not, Bool.and_eq_false_imp, beq_iff_eq] at h1 h2
    have e : a = b := UInt8.le_antisymm (UInt8.not_lt.1 h2.1) (UInt8.not_lt.1 h1.1)
    subst e
    rw [less_total x y (h1.2 rfl) (h2.2 rfl)]
theorem kl_self (a : ByteArray) : kl a a = false := less_self _
theorem kl_trans {a b c : ByteArray} (h1 : kl a b = true) (h2 : kl b c = true) : kl a c = true := less_trans _ _ _ h1 h2
theorem key_eq {a b : ByteArray} (h : a.toList = b.toList) : a = b := by
  rw [Go.Lib.toList_data, Go.Lib.toList_data] at h
  exact ba_inj h
theorem kl_total {a b : ByteArray} (h1 : kl a b = false) (h2 : kl b a = false) : a = b := key_eq (less_total _ _ h1 h2)
theorem kl_asym {a b : ByteArray} (h : kl a b = true) : kl b a = false := by
  cases h2 : kl b a
  · rfl
  · have := kl_trans h h2
    rw [kl_self] at this
    cases this
/-- A sorted row has the entries of a map. -/
structure Rel (f : ByteArray → Option Ent) (L : List Ent) : Prop where
  sorted : L.Pairwise (fun a b => kl a.key b.key = true)
  mem : ∀ k e, f k = some e ↔ (e ∈ L ∧ e.key = k)
section
variable {f : ByteArray → Option Ent} {L : List Ent} {k : ByteArray} {e x : Ent} {now : Int}
theorem Rel.start : Rel (fun _ => none) [] := ⟨List.Pairwise.nil, fun k e => ⟨fun h => (by cases h), fun h => (by cases h.1)⟩⟩
/-- Two sorted rows with the same entries are one. -/
theorem sorted_eq : ∀ {L M : List Ent}, L.Pairwise (fun a b => kl a.key b.key = true) → M.Pairwise (fun a b => kl a.key b.key = true) → (∀ e, e ∈ L ↔ e ∈ M) → L = M
  | [], [], _, _, _ => rfl
  | [], y :: M, _, _, h => by have := (h y).2 (List.mem_cons_self); cases this
  | x :: L, [], _, _, h => by have := (h x).1 (List.mem_cons_self); cases this
  | x :: L, y :: M, h1, h2, h => by
    have s1 := h1
    have s2 := h2
    rw [List.pairwise_cons] at h1 h2
    have exy : x = y := by
      rcases List.mem_cons.1 ((h x).1 List.mem_cons_self) with e | hx
      · exact e
      · rcases List.mem_cons.1 ((h y).2 List.mem_cons_self) with e | hy
        · exact e.symm
        · have a1 := h2.1 x hx
          have a2 := h1.1 y hy
          rw [kl_asym a1] at a2
          cases a2
    subst exy
    rw [sorted_eq h1.2 h2.2 fun e => ?_]
    constructor
    · intro he
      rcases List.mem_cons.1 ((h e).1 (List.mem_cons_of_mem _ he)) with rfl | hm
      · have := h1.1 e he
        rw [kl_self] at this
        cases this
      · exact hm
    · intro he
      rcases List.mem_cons.1 ((h e).2 (List.mem_cons_of_mem _ he)) with rfl | hm
      · have := h2.1 e he
        rw [kl_self] at this
        cases this
      · exact hm
theorem Rel.uniq {M : List Ent} (h : Rel f L) (h2 : Rel f M) : L = M :=
  sorted_eq h.sorted h2.sorted fun e => by
    constructor
    · intro he; exact ((h2.mem e.key e).1 ((h.mem e.key e).2 ⟨he, rfl⟩)).1
    · intro he; exact ((h.mem e.key e).1 ((h2.mem e.key e).2 ⟨he, rfl⟩)).1
/-- Where a key's entry stands. -/
theorem sorted_place : ∀ {L : List Ent}, L.Pairwise (fun a b => kl a.key b.key = true) → ∀ {e : Ent}, e ∈ L → L[placeOf e.key L]? = some e
  | x :: L, h, e, he => by
    rw [List.pairwise_cons] at h
    unfold placeOf
    rcases List.mem_cons.1 he with rfl | he
    · rw [if_neg (by show ¬ kl e.key e.key = true; rw [kl_self]; decide)]; rfl
    · rw [show (if Op.bytesLess x.key.toList e.key.toList = true then placeOf e.key L + 1 else 0) = placeOf e.key L + 1 from if_pos (h.1 e he), List.getElem?_cons_succ]
      exact sorted_place h.2 he
theorem live_lv (d now : Int) : live d now = lv d now := by
  unfold live lv
  by_cases h : d = 0
  · subst h; simp
  · by_cases h2 : 0 < d <;> by_cases h3 : now < d <;> simp [h, h2, h3]
theorem Rel.at_ (h : Rel f L) (k : ByteArray) (now : Int) : isAt k now L = (liveOf f k now).isSome ∧ Rm.rowAt L k now = liveOf f k now := by
  have hrow : isAt k now L = (liveOf f k now).isSome ∧ (isAt k now L = true → L[placeOf k L]? = liveOf f k now) := by
    unfold isAt liveOf
    cases hf : f k with
    | some e =>
      obtain ⟨he, rfl⟩ := (h.mem k e).1 hf
      have hp := sorted_place h.sorted he
      rw [hp]
      simp only [beq_self_eq_true, Bool.true_and, live_lv]
      cases hl : lv e.dl now
      · simp
      · simp
    | none =>
      cases hp : L[placeOf k L]? with
      | none => simp
      | some x =>
        have hx := List.mem_of_getElem? hp
        have hne : (x.key.toList == k.toList) = false := by
          rw [beq_eq_false_iff_ne]
          intro e
          have := (h.mem k x).2 ⟨hx, key_eq e⟩
          rw [hf] at this
          cases this
        simp [hne]
  refine ⟨hrow.1, ?_⟩
  unfold Rm.rowAt
  cases hT : isAt k now L
  · rw [if_neg (by decide)]
    rw [hrow.1] at hT
    exact (Option.isNone_iff_eq_none.1 (by simpa using hT)).symm
  · rw [if_pos rfl]
    exact hrow.2 hT
/-- A key's entry goes. -/
theorem mem_forget (k : ByteArray) : ∀ {L : List Ent}, L.Pairwise (fun a b => kl a.key b.key = true) → ∀ (e : Ent), e ∈ forgetL k L ↔ (e ∈ L ∧ e.key ≠ k)
  | [], _, e => by unfold forgetL; simp
  | x :: L, h, e => by
    have hs := h
    rw [List.pairwise_cons] at h
    unfold forgetL findOf
    by_cases hx : (x.key.toList == k.toList) = true
    · rw [if_pos hx, List.eraseIdx_cons_zero]
      have hxk : x.key = k := key_eq (beq_iff_eq.1 hx)
      constructor
      · intro he
        refine ⟨List.mem_cons_of_mem _ he, fun ek => ?_⟩
        have := h.1 e he
        rw [ek, hxk, kl_self] at this
        cases this
      · rintro ⟨he, hk⟩
        rcases List.mem_cons.1 he with rfl | he
        · exact absurd hxk hk
        · exact he
    · rw [if_neg hx, List.eraseIdx_cons_succ, List.mem_cons, List.mem_cons]
      have ih := mem_forget k h.2 e
      unfold forgetL at ih
      rw [ih]
      constructor
      · rintro (rfl | ⟨h1, h2⟩)
        · exact ⟨.inl rfl, fun ek => hx (by rw [ek]; simp)⟩
        · exact ⟨.inr h1, h2⟩
      · rintro ⟨rfl | h1, h2⟩
        · exact .inl rfl
        · exact .inr ⟨h1, h2⟩
theorem forget_sorted (h : L.Pairwise (fun a b => kl a.key b.key = true)) (k : ByteArray) : (forgetL k L).Pairwise (fun a b => kl a.key b.key = true) := h.sublist (List.eraseIdx_sublist _ _)
theorem find_lt (k : ByteArray) : ∀ (L : List Ent), decide (findOf k L < L.length) = true ↔ ∃ e ∈ L, e.key = k
  | [] => by simp [findOf]
  | x :: L => by
    unfold findOf
    by_cases hx : (x.key.toList == k.toList) = true
    · rw [if_pos hx]
      simp only [List.length_cons, Nat.zero_lt_succ, decide_true, true_iff]
      exact ⟨x, List.mem_cons_self, key_eq (beq_iff_eq.1 hx)⟩
    · rw [if_neg hx]
      have ih := find_lt k L
      simp only [List.length_cons, Nat.succ_lt_succ_iff]
      rw [ih]
      constructor
      · rintro ⟨e, he, hk⟩; exact ⟨e, List.mem_cons_of_mem _ he, hk⟩
      · rintro ⟨e, he, hk⟩
        rcases List.mem_cons.1 he with rfl | he
        · exact absurd (by rw [hk]; simp) hx
        · exact ⟨e, he, hk⟩
theorem Rel.there (h : Rel f L) (k : ByteArray) : decide (findOf k L < L.length) = (f k).isSome := by
  rw [Bool.eq_iff_iff, find_lt]
  cases hf : f k with
  | none =>
    constructor
    · rintro ⟨e, he, hk⟩
      have := (h.mem k e).2 ⟨he, hk⟩
      rw [hf] at this
      cases this
    · intro h; cases h
  | some e =>
    have := (h.mem k e).1 hf
    exact ⟨fun _ => rfl, fun _ => ⟨e, this.1, this.2⟩⟩
theorem Rel.drop (h : Rel f L) (k : ByteArray) : Rel (upd f k none) (forgetL k L) :=
  ⟨forget_sorted h.sorted k, fun j e => by
    rw [mem_forget _ h.sorted]
    unfold upd
    split
    · rename_i hj
      subst hj
      constructor
      · intro h; cases h
      · rintro ⟨⟨_, h1⟩, h2⟩; exact absurd h2 h1
    · rename_i hj
      rw [h.mem]
      constructor
      · rintro ⟨h1, h2⟩; exact ⟨⟨h1, fun e3 => hj (h2.symm.trans e3)⟩, h2⟩
      · rintro ⟨⟨h1, _⟩, h2⟩; exact ⟨h1, h2⟩⟩
/-- An entry is put into a row that has none of its key. -/
theorem ins_sorted : ∀ {M : List Ent}, M.Pairwise (fun a b => kl a.key b.key = true) → (∀ e ∈ M, e.key ≠ x.key) → (M.take (placeOf x.key M) ++ x :: M.drop (placeOf x.key M)).Pairwise (fun a b => kl a.key b.key = true) ∧ ∀ e, e ∈ (M.take (placeOf x.key M) ++ x :: M.drop (placeOf x.key M)) ↔ (e = x ∨ e ∈ M)
  | [], _, _ => ⟨List.pairwise_singleton _ _, fun e => by simp [placeOf]⟩
  | y :: M, h, hn => by
    have hs := h
    rw [List.pairwise_cons] at h
    unfold placeOf
    by_cases hy : kl y.key x.key = true
    · obtain ⟨i1, i2⟩ := ins_sorted h.2 (fun e he => hn e (List.mem_cons_of_mem _ he))
      rw [show (if Op.bytesLess y.key.toList x.key.toList = true then placeOf x.key M + 1 else 0) = placeOf x.key M + 1 from if_pos hy, List.take_succ_cons, List.drop_succ_cons, List.cons_append]
      refine ⟨List.pairwise_cons.2 ⟨fun e he => ?_, i1⟩, fun e => ?_⟩
      · rcases (i2 e).1 he with rfl | he
        · exact hy
        · exact h.1 e he
      · rw [List.mem_cons, i2, List.mem_cons]
        constructor
        · rintro (h | h | h)
          · exact .inr (.inl h)
          · exact .inl h
          · exact .inr (.inr h)
        · rintro (h | h | h)
          · exact .inr (.inl h)
          · exact .inl h
          · exact .inr (.inr h)
    · rw [show (if Op.bytesLess y.key.toList x.key.toList = true then placeOf x.key M + 1 else 0) = 0 from if_neg hy, List.take_zero, List.drop_zero, List.nil_append]
      have hxy : kl x.key y.key = true := by
        cases h2 : kl x.key y.key
        · exact absurd (kl_total (by simpa using hy) h2) (hn y List.mem_cons_self)
        · rfl
      refine ⟨List.pairwise_cons.2 ⟨fun e he => ?_, hs⟩, fun e => List.mem_cons⟩
      rcases List.mem_cons.1 he with rfl | he
      · exact hxy
      · exact kl_trans hxy (h.1 e he)
theorem Rel.keep (h : Rel f L) (x : Ent) : Rel (upd f x.key (some x)) (setL x L) := by
  have hd := forget_sorted h.sorted x.key
  obtain ⟨i1, i2⟩ := ins_sorted (x := x) hd (fun e he => ((mem_forget _ h.sorted e).1 he).2)
  refine ⟨i1, fun j e => ?_⟩
  unfold setL
  rw [i2, mem_forget _ h.sorted]
  unfold upd
  split
  · rename_i hj
    subst hj
    constructor
    · intro h; exact ⟨.inl (Option.some.inj h).symm, by rw [← Option.some.inj h]⟩
    · rintro ⟨rfl | ⟨_, h1⟩, h2⟩
      · rfl
      · exact absurd h2 h1
  · rename_i hj
    rw [h.mem]
    constructor
    · rintro ⟨h1, h2⟩; exact ⟨.inr ⟨h1, fun e3 => hj (h2.symm.trans e3)⟩, h2⟩
    · rintro ⟨rfl | ⟨h1, _⟩, h2⟩
      · exact absurd h2.symm hj
      · exact ⟨h1, h2⟩
end
end Go.Proofs.YtepklobkppdliaaDoor.Mp
