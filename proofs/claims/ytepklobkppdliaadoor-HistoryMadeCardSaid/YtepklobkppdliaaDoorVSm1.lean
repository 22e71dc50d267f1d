/- The history: calls that take effect one by one, each between its call and its return, have an order. -/
import Derived.Test.YtepklobkppdliaaDoorVHsQ
namespace Go.Proofs.YtepklobkppdliaaDoor.Hs
open Go.RowKit Go.Proofs.YtepklobkppdliaaDoorW.PrintWords Go.Proofs.YtepklobkppdliaaDoorW.PrintLast Go.Proofs.YtepklobkppdliaaDoorW.PrintMore Go.Proofs.YtepklobkppdliaaDoor.Lib Go.Proofs.YtepklobkppdliaaDoor.Open Go.Proofs.YtepklobkppdliaaDoor.Md
/-- A call of the key. -/
def mkC (t : Int) (r : Rq) : Esp := ⟨1, t, r, [keyA], zAw, []⟩
theorem mkC_c (t : Int) (r : Rq) : isC keyA (mkC t r) = true := by unfold isC mkC hasK; simp
theorem bSp_c (t : Int) (a : Aw) (vs : List Fd) : isC keyA (bSp t a vs) = false := by unfold isC bSp; simp
/-- How many calls. -/
def nC (E : List Esp) : Nat := E.countP (isC keyA)
theorem nC_call (E : List Esp) (t : Int) (r : Rq) : nC (E ++ [mkC t r]) = nC E + 1 := by unfold nC; rw [List.countP_append]; simp [mkC_c]
theorem nC_back (E : List Esp) (t : Int) (a : Aw) (vs : List Fd) : nC (E ++ [bSp t a vs]) = nC E := by unfold nC; rw [List.countP_append]; simp [bSp_c]
def opn (r : Rq) (a : Aw) (vs : List Fd) : Opn := (⟨0, 0, r, a, vs⟩ : Osp).op
/-- Calls that take effect one by one: the events, the effects, the entry. -/
inductive Sim : List Esp → List (Nat × Aw × List Fd) → En → Prop
  | nil : Sim [] [] z104
  | call {E : List Esp} {D : List (Nat × Aw × List Fd)} {e : En} (r : Rq) : Sim E D e → Sim (E ++ [mkC ((nC E : Int) + 1) r]) D e
  | eff {E : List Esp} {D : List (Nat × Aw × List Fd)} {e e1 e2 : En} {t p : Nat} {r : Rq} {a : Aw} {vs : List Fd} : Sim E D e → E[p]? = some (mkC ((t : Int) + 1) r) → t ∉ D.map Prod.fst → (e1 = e ∨ e1 = z104) → doesA keyA (opn r a vs) e1 = (e2, true) → Sim E (D ++ [(t, a, vs)]) e2
  | ret {E : List Esp} {D : List (Nat × Aw × List Fd)} {e : En} {t : Nat} {a : Aw} {vs : List Fd} : Sim E D e → (t, a, vs) ∈ D → Sim (E ++ [bSp ((t : Int) + 1) a vs]) D e
/-- A beginning is one too. -/
theorem sim_take {E : List Esp} {D : List (Nat × Aw × List Fd)} {e : En} (h : Sim E D e) : ∀ k, ∃ D' e', Sim (E.take k) D' e' := by
  have tk : ∀ (E : List Esp) (x : Esp) (k : Nat), (E ++ [x]).take k = E ++ [x] ∨ (E ++ [x]).take k = E.take k := fun E x k => by
    by_cases hk : k ≤ E.length
    · right; rw [List.take_append_of_le_length hk]
    · left; rw [List.take_of_length_le (by simp; omega)]
  induction h with
  | nil => intro k; exact ⟨[], z104, by rw [List.take_nil]; exact Sim.nil⟩
  | call r h ih =>
    intro k
    rcases tk _ (mkC ((nC _ : Int) + 1) r) k with e | e
    · rw [e]; exact ⟨_, _, h.call r⟩
    · rw [e]; exact ih k
  | eff h _ _ _ _ ih => exact ih
  | ret h hm ih =>
    intro k
    rcases tk _ _ k with e | e
    · rw [e]; exact ⟨_, _, h.ret hm⟩
    · rw [e]; exact ih k
theorem get_snoc {α : Type} {E : List α} {x y : α} {p : Nat} (h : (E ++ [x])[p]? = some y) : (p < E.length ∧ E[p]? = some y) ∨ (p = E.length ∧ x = y) := by
  by_cases hp : p < E.length
  · rw [List.getElem?_append_left hp] at h
    exact .inl ⟨hp, h⟩
  · rw [List.getElem?_append_right (by omega)] at h
    cases hq : p - E.length with
    | zero => rw [hq] at h; exact .inr ⟨by omega, by simpa using h⟩
    | succ q => rw [hq] at h; simp at h
/-- The calls are counted. -/
theorem sim_calls {E : List Esp} {D : List (Nat × Aw × List Fd)} {e : En} (h : Sim E D e) : ∀ (p : Nat) (x : Esp), E[p]? = some x → isC keyA x = true → x.tk = (nC (E.take p) : Int) + 1 := by
  induction h with
  | nil => intro p x hx; simp at hx
  | @call E D e r h ih =>
    intro p x hx hc
    rcases get_snoc hx with ⟨hp, hx⟩ | ⟨rfl, rfl⟩
    · rw [List.take_append_of_le_length (by omega)]; exact ih p x hx hc
    · rw [List.take_append_of_le_length (Nat.le_refl _), List.take_length]; rfl
  | eff h _ _ _ _ ih => exact ih
  | @ret E D e t a vs h hm ih =>
    intro p x hx hc
    rcases get_snoc hx with ⟨hp, hx⟩ | ⟨rfl, rfl⟩
    · rw [List.take_append_of_le_length (by omega)]; exact ih p x hx hc
    · rw [bSp_c] at hc; cases hc
/-- Who returned took effect. -/
theorem sim_backs {E : List Esp} {D : List (Nat × Aw × List Fd)} {e : En} (h : Sim E D e) : ∀ (j : Nat) (x : Esp), E[j]? = some x → x.kind = 2 → ∃ (t : Nat) (a : Aw) (vs : List Fd), x = bSp ((t : Int) + 1) a vs ∧ (t, a, vs) ∈ D := by
  induction h with
  | nil => intro p x hx; simp at hx
  | @call E D e r h ih =>
    intro p x hx hc
    rcases get_snoc hx with ⟨hp, hx⟩ | ⟨rfl, rfl⟩
    · exact ih p x hx hc
    · exact absurd (show (1 : Int) = 2 from hc) (by decide)
  | eff h _ _ _ _ ih =>
    intro p x hx hc
    obtain ⟨t, a, vs, h1, h2⟩ := ih p x hx hc
    exact ⟨t, a, vs, h1, List.mem_append_left _ h2⟩
  | @ret E D e t a vs h hm ih =>
    intro p x hx hc
    rcases get_snoc hx with ⟨hp, hx⟩ | ⟨rfl, rfl⟩
    · exact ih p x hx hc
    · exact ⟨t, a, vs, rfl, hm⟩
/-- None takes effect twice. -/
theorem sim_once {E : List Esp} {D : List (Nat × Aw × List Fd)} {e : En} (h : Sim E D e) : (D.map Prod.fst).Nodup := by
  induction h with
  | nil => exact List.Pairwise.nil
  | call r h ih => exact ih
  | eff h _ hn _ _ ih =>
    rw [List.map_append]
    refine List.pairwise_append.2 ⟨ih, List.pairwise_singleton _ _, fun x hx y hy => ?_⟩
    rw [List.map_cons, List.map_nil, List.mem_singleton] at hy
    subst hy
    exact fun e => hn (e ▸ hx)
  | ret h hm ih => exact ih
theorem once_eq {D : List (Nat × Aw × List Fd)} {t : Nat} {x y : Aw × List Fd} (hn : (D.map Prod.fst).Nodup) (hx : (t, x) ∈ D) (hy : (t, y) ∈ D) : x = y := by
  induction D with
  | nil => cases hx
  | cons z D ih =>
    rw [List.map_cons, List.nodup_cons] at hn
    rcases List.mem_cons.1 hx with ex | hx
    · rcases List.mem_cons.1 hy with ey | hy
      · rw [← ex] at ey
        exact (Prod.mk.inj ey).2.symm
      · exact absurd (show z.1 ∈ D.map Prod.fst from by have := List.mem_map_of_mem (f := Prod.fst) hy; rw [← ex]; exact this) hn.1
    · rcases List.mem_cons.1 hy with ey | hy
      · exact absurd (show z.1 ∈ D.map Prod.fst from by have := List.mem_map_of_mem (f := Prod.fst) hx; rw [← ey]; exact this) hn.1
      · exact ih hn.2 hx hy
/-- Which took effect, as a number's bits. -/
def mask (D : List (Nat × Aw × List Fd)) : Nat := D.foldl (fun d x => d ||| 1 <<< x.1) 0
theorem mask_snoc (D : List (Nat × Aw × List Fd)) (x : Nat × Aw × List Fd) : mask (D ++ [x]) = mask D ||| 1 <<< x.1 := by unfold mask; rw [List.foldl_append]; rfl
theorem mask_from (k : Nat) : ∀ (D : List (Nat × Aw × List Fd)) (d : Nat), (D.foldl (fun d x => d ||| 1 <<< x.1) d).testBit k = (d.testBit k || decide (k ∈ D.map Prod.fst))
  | [], d => by simp
  | x :: D, d => by
    rw [List.foldl_cons, mask_from k D, bit_or]
    by_cases h : k = x.1
    · subst h; simp
    · have e : (k ∈ (x :: D).map Prod.fst) = (k ∈ D.map Prod.fst) := by rw [List.map_cons, List.mem_cons, eq_iff_iff]; exact ⟨fun c => c.resolve_left h, .inr⟩
      simp only [e, h, decide_false, Bool.or_false]
theorem mask_bit (D : List (Nat × Aw × List Fd)) (k : Nat) : (mask D).testBit k = decide (k ∈ D.map Prod.fst) := by
  unfold mask; rw [mask_from, Nat.zero_testBit, Bool.false_or]
/-- The calls of a history, place by place. -/
theorem ops_len (E : List Esp) : ∀ p, p ≤ E.length → (opsK keyA E p).length = nC (E.take p)
  | 0, _ => rfl
  | p + 1, hp => by
    have hg : E[p]? = some E[p] := List.getElem?_eq_getElem (by omega)
    have ih := ops_len E p (by omega)
    rw [List.take_add_one, hg]
    unfold nC at ih ⊢
    rw [List.countP_append]
    cases hc : isC keyA E[p]
    · rw [opsK_no hg hc, ih]; simp [hc]
    · rw [opsK_yes hg hc, List.length_append, ih]; simp [hc]
theorem ops_more (E : List Esp) (k : Nat) : ∀ d, ∃ R, opsK keyA E (k + d) = opsK keyA E k ++ R
  | 0 => ⟨[], by simp⟩
  | d + 1 => by
    obtain ⟨R, h⟩ := ops_more E k d
    refine ⟨R ++ (match E[k + d]? with | some e => if isC keyA e then [opOf E (k + d) e] else [] | none => []), ?_⟩
    rw [← List.append_assoc, ← h]
    rfl
theorem ops_at {E : List Esp} {p : Nat} {x : Esp} (hx : E[p]? = some x) (hc : isC keyA x = true) : (opsK keyA E E.length)[nC (E.take p)]? = some (opOf E p x) := by
  have hp := (List.getElem?_eq_some_iff.1 hx).1
  obtain ⟨R, h⟩ := ops_more E (p + 1) (E.length - (p + 1))
  rw [show p + 1 + (E.length - (p + 1)) = E.length by omega, opsK_yes hx hc] at h
  rw [h, ← ops_len E p (by omega)]
  simp
theorem ops_of {E : List Esp} {s : Osp} {k : Nat} : ∀ K, K ≤ E.length → (opsK keyA E K)[k]? = some s → ∃ p x, E[p]? = some x ∧ isC keyA x = true ∧ s = opOf E p x ∧ k = nC (E.take p)
  | 0, _, h => by simp [opsK] at h
  | K + 1, hK, h => by
    have hg : E[K]? = some E[K] := List.getElem?_eq_getElem (by omega)
    cases hc : isC keyA E[K]
    · rw [opsK_no hg hc] at h; exact ops_of K (by omega) h
    · rw [opsK_yes hg hc] at h
      rcases get_snoc h with ⟨_, h⟩ | ⟨hk, h⟩
      · exact ops_of K (by omega) h
      · exact ⟨K, _, hg, hc, h.symm, by rw [hk, ops_len E K (by omega)]⟩
theorem ret_from {tk : Int} : ∀ {l : List Esp} {k j : Nat} {x : Esp}, retFrom tk l k = some (j, x) → ∃ i, j = k + i ∧ l[i]? = some x ∧ isR tk x = true
  | [], k, j, x, h => by cases h
  | y :: l, k, j, x, h => by
    unfold retFrom at h
    split at h
    · rename_i hy
      injection h with h
      injection h with h1 h2
      exact ⟨0, by omega, by rw [h2]; rfl, h2 ▸ hy⟩
    · obtain ⟨i, h1, h2, h3⟩ := ret_from h
      exact ⟨i + 1, by omega, by simpa using h2, h3⟩
theorem ret_some {tk : Int} {E : List Esp} {k j : Nat} {x : Esp} (h : retAt tk E k = some (j, x)) : k ≤ j ∧ E[j]? = some x ∧ isR tk x = true := by
  obtain ⟨i, h1, h2, h3⟩ := ret_from h
  rw [List.getElem?_drop] at h2
  exact ⟨by omega, by rw [h1]; exact h2, h3⟩
theorem does_entry (a b : Opn) (e : En) (hr : a.r = b.r) : (doesA keyA a e).1 = (doesA keyA b e).1 := by
  unfold doesA
  rw [hr]
  split
  · rfl
  · unfold doesF doesN
    rw [hr]
/-- Such a history has an order. -/
theorem sim_order {E : List Esp} {D : List (Nat × Aw × List Fd)} {e : En} (hS : Sim E D e) : orderB keyA (opsK keyA E E.length) = true := by
  have C1 := sim_calls hS
  have C2 := sim_backs hS
  have C3 := sim_once hS
  obtain ⟨ops, hops⟩ : ∃ ops, ops = (opsK keyA E E.length).map Osp.op := ⟨_, rfl⟩
  obtain ⟨n, hn⟩ : ∃ n, n = (opsK keyA E E.length).length := ⟨_, rfl⟩
  unfold orderB
  rw [← hops, ← hn]
  have main : ∀ E' D' e', Sim E' D' e' → ∀ R Q, E = E' ++ R → D = D' ++ Q → fromB keyA ops (n - D'.length) (mask D') e' = true → fromB keyA ops n 0 z104 = true := by
    intro E' D' e' h
    induction h with
    | nil => intro R Q _ _ h; exact h
    | @call E' D' e' _ h ih =>
      intro R Q hE hD h
      rw [List.append_assoc] at hE
      exact ih _ Q hE hD h
    | @ret E' D' e' t a vs h hm ih =>
      intro R Q hE hD h
      rw [List.append_assoc] at hE
      exact ih _ Q hE hD h
    | @eff E' D' e' e1 e2 t p r a vs h hp ht he hd ih =>
      intro R Q hE hD hlast
      have hD2 := hD
      rw [List.append_assoc] at hD
      refine ih R _ hE hD ?_
      rw [mask_snoc] at hlast
      simp only [List.length_append, List.length_cons, List.length_nil] at hlast
      cases hl : leftB ops (mask D')
      · exact from_done hl _ _
      obtain ⟨m, hm⟩ : ∃ m, m = n - (D'.length + 1) := ⟨_, rfl⟩
      rw [← hm] at hlast
      by_cases h0 : n - D'.length = 0
      · rw [h0]; rfl
      rw [show n - D'.length = m + 1 by omega]
      have pl : p < E'.length := (List.getElem?_eq_some_iff.1 hp).1
      have hpE : E[p]? = some (mkC ((t : Int) + 1) r) := by rw [hE, List.getElem?_append_left pl]; exact hp
      have htp : nC (E.take p) = t := by
        have := C1 p _ hpE (mkC_c _ _)
        have e3 : (mkC ((t : Int) + 1) r).tk = (t : Int) + 1 := rfl
        omega
      have hx := ops_at hpE (mkC_c _ _)
      rw [htp] at hx
      have hxo : ops[t]? = some (opOf E p (mkC ((t : Int) + 1) r)).op := by rw [hops, List.getElem?_map, hx]; rfl
      have hfr : (opOf E p (mkC ((t : Int) + 1) r)).op.fr = p := by unfold opOf Osp.op; split <;> rfl
      have hr : (opOf E p (mkC ((t : Int) + 1) r)).op.r = r := by unfold opOf Osp.op; split <;> rfl
      have B2 := sim_backs h
      refine from_yes hl e' m t (List.getElem?_eq_some_iff.1 hxo).1 ?_
      unfold nextB
      rw [Bool.and_eq_true]
      constructor
      · refine may_yes hxo (by rw [mask_bit]; exact decide_eq_false ht) fun k o ho => ?_
        rw [hfr]
        cases hb : blocks (mask D') p k o
        · rfl
        exfalso
        unfold blocks at hb
        simp only [Bool.and_eq_true, Bool.not_eq_true', decide_eq_true_eq] at hb
        obtain ⟨b1, b2, b3⟩ := hb
        rw [hops, List.getElem?_map] at ho
        obtain ⟨s, hs, rfl⟩ := Option.map_eq_some_iff.1 ho
        obtain ⟨pk, xk, hk1, hk2, rfl, hk4⟩ := ops_of _ (Nat.le_refl _) hs
        have htk := C1 pk xk hk1 hk2
        rw [← hk4] at htk
        have hti : (opOf E pk xk).op.ti = (opOf E pk xk).ti := rfl
        rw [hti] at b2 b3
        unfold opOf at b2 b3
        cases hrt : retAt xk.tk E (pk + 1) with
        | none => rw [hrt] at b2; exact absurd (show (0 : Int) ≤ -1 from b2) (by decide)
        | some jx =>
          obtain ⟨j, x⟩ := jx
          rw [hrt] at b3
          have b4 : (j : Int) < (p : Int) := b3
          obtain ⟨g1, g2, g3⟩ := ret_some hrt
          rw [hE, List.getElem?_append_left (by omega)] at g2
          unfold isR at g3
          simp only [Bool.and_eq_true, beq_iff_eq] at g3
          obtain ⟨t', a', vs', rfl, hin⟩ := B2 j x g2 g3.1
          have e4 : ((t' : Nat) : Int) + 1 = xk.tk := g3.2
          have : t' = k := by omega
          subst this
          rw [mask_bit, decide_eq_false_iff_not] at b1
          exact b1 (List.mem_map_of_mem (f := Prod.fst) hin)
      · have hok : ((doesA keyA (opOf E p (mkC ((t : Int) + 1) r)).op e1).2 || (decide (0 ≤ (opOf E p (mkC ((t : Int) + 1) r)).op.ti) && ((opOf E p (mkC ((t : Int) + 1) r)).op.a.kind == 14)) || decide ((opOf E p (mkC ((t : Int) + 1) r)).op.ti < 0)) = true := by
          cases hrt : retAt (mkC ((t : Int) + 1) r).tk E (p + 1) with
          | none =>
            have : (opOf E p (mkC ((t : Int) + 1) r)).op.ti = -1 := by unfold opOf; rw [hrt]; rfl
            rw [this]
            simp
          | some jx =>
            obtain ⟨j, x⟩ := jx
            obtain ⟨g1, g2, g3⟩ := ret_some hrt
            unfold isR at g3
            simp only [Bool.and_eq_true, beq_iff_eq] at g3
            obtain ⟨t', a', vs', rfl, hin⟩ := C2 j x g2 g3.1
            have e4 : ((t' : Nat) : Int) + 1 = (t : Int) + 1 := g3.2
            have e5 : t' = t := by omega
            subst e5
            have e6 : (a, vs) = (a', vs') := once_eq C3 (by rw [hD2]; exact List.mem_append_left _ (List.mem_append_right _ (List.mem_singleton.2 rfl))) hin
            injection e6 with e6 e7
            subst e6 e7
            have e8 : doesA keyA (opOf E p (mkC ((t' : Nat) + 1 : Int) r)).op e1 = doesA keyA (opn r a vs) e1 := by unfold opOf; rw [hrt]; rfl
            rw [e8, hd]
            rfl
        have hst : (doesA keyA (opOf E p (mkC ((t : Int) + 1) r)).op e1).1 = e2 := by
          rw [does_entry _ (opn r a vs) e1 hr, hd]
        have hg : ∀ e0, e0 = e1 → tryG (fromB keyA ops m) keyA ops t (mask D') e0 = true := fun e0 he0 => by
          subst he0
          rw [tryG_eq hxo, hok, hst, hlast]
          rfl
        rw [Bool.or_eq_true]
        rcases he with rfl | rfl
        · exact .inl (hg _ rfl)
        · exact .inr (hg _ rfl)
  refine main E D e hS [] [] (by simp) (by simp) ?_
  refine from_done ?_ _ _
  rw [Bool.eq_false_iff]
  intro hleft
  obtain ⟨j, o, h1, h2, h3⟩ := (leftB_spec _ _).1 hleft
  rw [hops, List.getElem?_map] at h1
  obtain ⟨s, hs, rfl⟩ := Option.map_eq_some_iff.1 h1
  obtain ⟨pk, xk, hk1, hk2, rfl, hk4⟩ := ops_of _ (Nat.le_refl _) hs
  have htk := C1 pk xk hk1 hk2
  rw [← hk4] at htk
  have hti : (opOf E pk xk).op.ti = (opOf E pk xk).ti := rfl
  rw [hti] at h2
  unfold opOf at h2
  cases hrt : retAt xk.tk E (pk + 1) with
  | none => rw [hrt] at h2; exact absurd (show (0 : Int) ≤ -1 from h2) (by decide)
  | some jx =>
    obtain ⟨i, x⟩ := jx
    obtain ⟨g1, g2, g3⟩ := ret_some hrt
    unfold isR at g3
    simp only [Bool.and_eq_true, beq_iff_eq] at g3
    obtain ⟨t', a', vs', rfl, hin⟩ := C2 i x g2 g3.1
    have e4 : ((t' : Nat) : Int) + 1 = xk.tk := g3.2
    have : t' = j := by omega
    subst this
    rw [mask_bit, decide_eq_false_iff_not] at h3
    exact h3 (List.mem_map_of_mem (f := Prod.fst) hin)
end Go.Proofs.YtepklobkppdliaaDoor.Hs
