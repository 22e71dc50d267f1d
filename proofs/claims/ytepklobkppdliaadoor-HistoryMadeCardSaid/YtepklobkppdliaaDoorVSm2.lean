/- The history: the document's model of one key against the search's entry; a lie has no order. -/
import Derived.Test.YtepklobkppdliaaDoorVSm1
import Derived.Test.YtepklobkppdliaaDoorVRm6
namespace Go.Proofs.YtepklobkppdliaaDoor.Hs
open Go.RowKit Go.Proofs.YtepklobkppdliaaDoorW.PrintWords Go.Proofs.YtepklobkppdliaaDoorW.PrintLast Go.Proofs.YtepklobkppdliaaDoorW.PrintMore Go.Proofs.YtepklobkppdliaaDoor.Lib Go.Proofs.YtepklobkppdliaaDoor.Open Go.Proofs.YtepklobkppdliaaDoor.Md
open Go.Proofs.YtepklobkppdliaaDoor.Rm (forgetL setL rowTo entOf isAt placeOf rows rowAt kEnt findOf lv)
/-- A row of at most one entry, of the key. -/
def RowA (L : List Ent) : Prop := L = [] ∨ ∃ x, L = [x] ∧ x.key = keyA ∧ x.dl = 0 ∧ x.val.size ≤ 1048576
def absE : List Ent → En
  | [] => z104
  | x :: _ => ⟨true, x.fl, x.val⟩
theorem rowA_len {L : List Ent} (h : RowA L) : L.length ≤ 1 := by
  rcases h with rfl | ⟨x, rfl, _⟩ <;> simp
theorem rowA_key {L : List Ent} (h : RowA L) : ∀ x ∈ L, x.key = keyA := by
  rcases h with rfl | ⟨x, rfl, hk, _⟩
  · intro x hx; cases hx
  · intro y hy; rw [List.mem_singleton.1 hy]; exact hk
theorem keyA_list : keyA.toList = [97] := by rw [toList_data]; rfl
theorem less_keyA : Op.bytesLess keyA.toList keyA.toList = false := by rw [keyA_list]; decide
theorem place_one {x : Ent} (h : x.key = keyA) : placeOf keyA [x] = 0 := by
  unfold placeOf
  rw [h, less_keyA]
  rfl
theorem at_one {x : Ent} (h : x.key = keyA) (hd : x.dl = 0) : isAt keyA 0 [x] = true := by
  unfold isAt
  rw [place_one h]
  show ((x.key.toList == keyA.toList) && lv x.dl 0) = true
  rw [h, hd]
  simp [lv]
theorem forget_one {L : List Ent} (h : RowA L) : forgetL keyA L = [] := by
  rcases h with rfl | ⟨x, rfl, hk, _⟩
  · rfl
  · unfold forgetL findOf
    rw [hk, if_pos (by simp)]
    rfl
theorem set_one {L : List Ent} {x : Ent} (h : RowA L) (hk : x.key = keyA) : setL x L = [x] := by
  unfold setL
  rw [hk, forget_one h]
  rfl
theorem ent_none : entOf [] keyA 0 = kEnt keyA := rfl
theorem ent_some {x : Ent} (h : x.key = keyA) (hd : x.dl = 0) : entOf [x] keyA 0 = x := by
  unfold entOf Rm.rowAt
  rw [if_pos (at_one h hd), place_one h]
  rfl
theorem rowA_fine {L : List Ent} {r : Rq} (h : RowA L) (hd : r.data.size ≤ 50) (h0 : 0 ≤ r.delta) : Fine r (entOf L keyA 0) := by
  refine ⟨by omega, ?_, h0⟩
  rcases h with rfl | ⟨x, rfl, hk, hl, hs⟩
  · rw [ent_none]; show (0 : Nat) ≤ _; omega
  · rw [ent_some hk hl]; omega
/-- What is kept behind a request. -/
theorem next_keep (r : Rq) (e : Ent) (there : Bool) (hx : r.exp = 0) (hd : r.data.size ≤ 1048576) (he : e.dl = 0) (hs : e.val.size ≤ 1048576) (hF : Fine r e) :
    (nextOf r e there 0 0).2.1.key = e.key ∧ (nextOf r e there 0 0).2.1.dl = 0 ∧ (nextOf r e there 0 0).2.1.val.size ≤ 1048576 := by
  have f1 : (fresh r e 0 0).key = e.key := rfl
  have f2 : (fresh r e 0 0).dl = 0 := by show dead r.exp 0 = 0; rw [hx]; rfl
  have f3 : (fresh r e 0 0).val.size ≤ 1048576 := hd
  unfold nextOf
  split
  · exact ⟨f1, f2, f3⟩
  split
  · split
    · exact ⟨rfl, he, hs⟩
    · exact ⟨f1, f2, f3⟩
  split
  · split
    · exact ⟨f1, f2, f3⟩
    · exact ⟨rfl, he, hs⟩
  split
  · split
    · split
      · exact ⟨rfl, he, hs⟩
      · rename_i hle
        refine ⟨rfl, he, ?_⟩
        show (if r.verb = 6 then e.val ++ r.data else r.data ++ e.val).size ≤ 1048576
        split
        · rw [ByteArray.size_append]; omega
        · rw [ByteArray.size_append]; omega
    · exact ⟨rfl, he, hs⟩
  split
  · split
    · split
      · split
        · exact ⟨f1, f2, f3⟩
        · exact ⟨rfl, he, hs⟩
      split
      · exact ⟨rfl, he, hs⟩
      split
      · exact ⟨rfl, by show dead r.exp 0 = 0; rw [hx]; rfl, hs⟩
      split
      · exact ⟨rfl, he, hs⟩
      · rename_i n hn
        exact ⟨rfl, he, Nat.le_trans (dec_size _ (numTo_lt r e n hn hF)) (by decide)⟩
    · exact ⟨rfl, he, hs⟩
  · exact ⟨rfl, he, hs⟩
/-- A request looks at flags and value alone. -/
theorem next_same (r : Rq) (e f : Ent) (there : Bool) (v1 v2 : Int) (hv : r.verb ≠ 8) (h1 : e.fl = f.fl) (h2 : e.val = f.val) :
    (nextOf r e there 0 v1).1 = (nextOf r f there 0 v2).1 ∧ (nextOf r e there 0 v1).2.1.fl = (nextOf r f there 0 v2).2.1.fl ∧ (nextOf r e there 0 v1).2.1.val = (nextOf r f there 0 v2).2.1.val ∧
    (nextOf r e there 0 v1).2.2 = (nextOf r f there 0 v2).2.2 := by
  have f1 : (fresh r e 0 v1).fl = (fresh r f 0 v2).fl := rfl
  have f2 : (fresh r e 0 v1).val = (fresh r f 0 v2).val := rfl
  unfold nextOf
  rw [h2]
  split
  · exact ⟨rfl, f1, f2, rfl⟩
  split
  · split
    · exact ⟨rfl, h1, h2, rfl⟩
    · exact ⟨rfl, f1, f2, rfl⟩
  split
  · split
    · exact ⟨rfl, f1, f2, rfl⟩
    · exact ⟨rfl, h1, h2, rfl⟩
  split
  · split
    · split
      · exact ⟨rfl, h1, h2, rfl⟩
      · exact ⟨rfl, h1, rfl, rfl⟩
    · exact ⟨rfl, h1, h2, rfl⟩
  split
  · split
    · split
      · exact ⟨rfl, h1, h2, rfl⟩
      split
      · exact ⟨rfl, h1, rfl, rfl⟩
      split
      · exact ⟨rfl, h1, h2, rfl⟩
      · exact ⟨rfl, h1, rfl, rfl⟩
    · exact ⟨rfl, h1, h2, rfl⟩
  · exact ⟨rfl, h1, h2, rfl⟩
/-- An answer of the document's model as the search reads it. -/
def awOf (a : An) : Aw := ⟨a.kind, false, a.num, a.text, 0, 0, 0, 0⟩
theorem okB_self (a : An) : okB a (awOf a) = true := by unfold okB awOf; simp
/-- One request: the row and the search's entry go the same way. -/
theorem step_row {L : List Ent} (h : RowA L) (r : Rq) (hv : r.verb ≠ 1 ∧ r.verb ≠ 8) (hx : r.exp = 0) (hd : r.data.size ≤ 50) (h0 : 0 ≤ r.delta) :
    RowA (rowTo L r keyA 0 0).2 ∧ doesA keyA (opn r (awOf (rowTo L r keyA 0 0).1) []) (absE L) = (absE (rowTo L r keyA 0 0).2, true) := by
  have hF := rowA_fine h hd h0
  have hE : (entOf L keyA 0).key = keyA ∧ (entOf L keyA 0).dl = 0 ∧ (entOf L keyA 0).val.size ≤ 1048576 ∧ (absE L).fl = (entOf L keyA 0).fl ∧ (absE L).val = (entOf L keyA 0).val ∧ (absE L).there = isAt keyA 0 L := by
    rcases h with rfl | ⟨x, rfl, hk, hl, hs⟩
    · exact ⟨rfl, rfl, Nat.zero_le _, rfl, rfl, rfl⟩
    · rw [ent_some hk hl, at_one hk hl]; exact ⟨hk, hl, hs, rfl, rfl, rfl⟩
  obtain ⟨e1, e2, e3, e4, e5, e6⟩ := hE
  have hk := next_keep r (entOf L keyA 0) (isAt keyA 0 L) hx (by omega) e2 e3 hF
  have hs := next_same r (ent0 keyA (absE L)) (entOf L keyA 0) (isAt keyA 0 L) 1 0 hv.2 e4 e5
  have hkd := (next_fine r (entOf L keyA 0) (isAt keyA 0 L) 0 0 hF).2
  have hda : doesA keyA (opn r (awOf (rowTo L r keyA 0 0).1) []) (absE L) = doesF keyA (opn r (awOf (rowTo L r keyA 0 0).1) []) (absE L) := by unfold doesA; rw [if_neg (show ¬ (opn r (awOf (rowTo L r keyA 0 0).1) []).r.verb = 1 from hv.1)]
  rw [hda]
  unfold doesF
  have hdn : doesN keyA (opn r (awOf (rowTo L r keyA 0 0).1) []) (absE L) = nextOf r (ent0 keyA (absE L)) (isAt keyA 0 L) 0 1 := by unfold doesN; rw [e6]; rfl
  rw [hdn]
  unfold rowTo
  obtain ⟨⟨a1, x1, kp1, dr1⟩, h1⟩ : ∃ N, N = nextOf r (ent0 keyA (absE L)) (isAt keyA 0 L) 0 1 := ⟨_, rfl⟩
  obtain ⟨⟨a2, x2, kp2, dr2⟩, h2⟩ : ∃ N, N = nextOf r (entOf L keyA 0) (isAt keyA 0 L) 0 0 := ⟨_, rfl⟩
  rw [← h2] at hk hkd
  rw [← h1, ← h2] at hs ⊢
  simp only at hk hkd hs ⊢
  obtain ⟨s1, s2, s3, s4⟩ := hs
  injection s4 with s4 s5
  subst s1 s4 s5
  have ho : okB a1 (opn r (awOf a1) []).a = true := okB_self a1
  rw [ho]
  cases kp1
  · cases dr1
    · exact ⟨h, rfl⟩
    · show RowA (forgetL keyA L) ∧ (z104, true) = (absE (forgetL keyA L), true)
      rw [forget_one h]
      exact ⟨.inl rfl, rfl⟩
  · obtain rfl : dr1 = false := hkd rfl
    show RowA (setL x2 L) ∧ ((⟨true, x1.fl, x1.val⟩ : En), true) = (absE (setL x2 L), true)
    have hk2 : x2.key = keyA := hk.1.trans e1
    rw [set_one h hk2, s2, s3]
    exact ⟨.inr ⟨x2, rfl, hk2, hk.2.1, hk.2.2⟩, rfl⟩
def fdOf (e : Ent) : Fd := ⟨e.key, e.fl, e.val, e.cas⟩
theorem fd_flat (L : List Ent) : (L.map fdOf).flatMap Fd.c = L.flatMap Rm.fcl := by rw [List.flatMap_map]; rfl
theorem rows_one {L : List Ent} (h : RowA L) : rows L [keyA] 0 = L := by
  unfold rows Rm.rowAt
  rcases h with rfl | ⟨x, rfl, hk, hl, _⟩
  · rfl
  · simp [at_one hk hl, place_one hk]
/-- A get tells what is there. -/
theorem step_get {L : List Ent} (h : RowA L) (r : Rq) (hv : r.verb = 1) : doesA keyA (opn r tAw (L.map fdOf)) (absE L) = (absE L, true) := by
  unfold doesA
  rw [if_pos (show (opn r tAw (L.map fdOf)).r.verb = 1 from hv)]
  show (absE L, toldB keyA tAw (L.map fdOf) (absE L)) = _
  have : toldB keyA tAw (L.map fdOf) (absE L) = true := by
    unfold toldB
    rcases h with rfl | ⟨x, rfl, hk, hl, _⟩
    · unfold plainB anyK; rw [show tAw.text.toList = [] by rw [toList_data]; rfl]; rfl
    · unfold plainB anyK okV
      rw [show tAw.text.toList = [] by rw [toList_data]; rfl]
      simp [fdOf, absE, hk, tAw]
  rw [this]
def longV : ByteArray := ⟨#[110, 101, 118, 101, 114, 32, 115, 116, 111, 114, 101, 100, 44, 32, 97, 110, 100, 32, 108, 111, 110, 103, 101, 114, 32, 116, 104, 97, 110, 32, 102, 105, 102, 116, 121, 32, 98, 121, 116, 101, 115, 32, 97, 114, 101, 58, 32, 106, 117, 115, 116, 32, 115, 111, 32, 108, 111, 110, 103]⟩
/-- One get of these events told the value that was never stored. -/
def Lied (E : List Esp) : Prop := ∃ p t d q, E[p]? = some (mkC t (cRq 1 d)) ∧ retAt t E (p + 1) = some (q, bSp t tAw [⟨keyA, 0, longV, 0⟩])
/-- The calls of a history of this kind. -/
def Kind (E : List Esp) : Prop := ∀ x ∈ E, isC keyA x = true → ((x.r.verb = 1 ∨ x.r.verb = 3 ∨ x.r.verb = 4 ∨ x.r.verb = 5 ∨ x.r.verb = 9) ∧ x.r.data.size ≤ 50) ∧ RqOk x.r
theorem ret_append {tk : Int} : ∀ {l X : List Esp} {k : Nat} {y : Nat × Esp}, retFrom tk l k = some y → retFrom tk (l ++ X) k = some y
  | [], X, k, y, h => by cases h
  | x :: l, X, k, y, h => by
    unfold retFrom at h
    rw [List.cons_append]
    unfold retFrom
    split at h
    · rename_i hx; rw [if_pos hx]; exact h
    · rename_i hx; rw [if_neg hx]; exact ret_append h
theorem Lied.append {E : List Esp} (h : Lied E) (X : List Esp) : Lied (E ++ X) := by
  obtain ⟨p, t, d, q, hp, hr⟩ := h
  have pl := (List.getElem?_eq_some_iff.1 hp).1
  refine ⟨p, t, d, q, by rw [List.getElem?_append_left pl]; exact hp, ?_⟩
  unfold retAt at hr ⊢
  rw [List.drop_append_of_le_length (by omega)]
  exact ret_append hr
theorem lied_here (E : List Esp) (t : Int) (d : ByteArray) : Lied (E ++ [mkC t (cRq 1 d), bSp t tAw [⟨keyA, 0, longV, 0⟩]]) := by
  refine ⟨E.length, t, d, E.length + 1, ?_, ?_⟩
  · simp
  · have h2 : (E ++ [mkC t (cRq 1 d), bSp t tAw [⟨keyA, 0, longV, 0⟩]])[E.length + 1]? = some (bSp t tAw [⟨keyA, 0, longV, 0⟩]) := by
      rw [List.getElem?_append_right (by omega), show E.length + 1 - E.length = 1 by omega]; rfl
    exact ret_here h2 (by unfold isR bSp; simp)
theorem Kind.two {E : List Esp} (h : Kind E) {t : Int} {v : Int} {d : ByteArray} (hv : v = 1 ∨ v = 3 ∨ v = 4 ∨ v = 5 ∨ v = 9) (hd : d.size ≤ 50) (a : Aw) (vs : List Fd) : Kind (E ++ [mkC t (cRq v d), bSp t a vs]) := fun x hx hc => by
  rcases List.mem_append.1 hx with hx | hx
  · exact h x hx hc
  · simp only [List.mem_cons, List.not_mem_nil, or_false] at hx
    rcases hx with rfl | rfl
    · exact ⟨⟨hv, hd⟩, cRq_ok v d (by omega) (by omega)⟩
    · rw [bSp_c] at hc; cases hc
/-- One call and its return, one behind the other. -/
theorem Sim.both {E : List Esp} {D e e1 e2} (h : Sim E D e) (r : Rq) (a : Aw) (vs : List Fd) (hn : ∀ x ∈ D, x.1 < nC E) (he : e1 = e ∨ e1 = z104) (hd : doesA keyA (opn r a vs) e1 = (e2, true)) :
    Sim (E ++ [mkC ((nC E : Int) + 1) r, bSp ((nC E : Int) + 1) a vs]) (D ++ [(nC E, a, vs)]) e2 := by
  have h1 := h.call r
  have h2 := Sim.eff (p := E.length) (t := nC E) h1 (by simp) (fun hm => by obtain ⟨x, hx, e⟩ := List.mem_map.1 hm; have := hn x hx; omega) he hd
  have h3 := Sim.ret h2 (List.mem_append_right _ (List.mem_singleton.2 rfl))
  rw [List.append_assoc] at h3
  exact h3
end Go.Proofs.YtepklobkppdliaaDoor.Hs
