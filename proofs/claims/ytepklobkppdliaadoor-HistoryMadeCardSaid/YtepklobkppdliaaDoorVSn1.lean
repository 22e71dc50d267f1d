/- The history: four callers, each with one call at a time. -/
import Derived.Test.YtepklobkppdliaaDoorVSm5
namespace Go.Proofs.YtepklobkppdliaaDoor.Hs
open Go.RowKit Go.Proofs.YtepklobkppdliaaDoorW.PrintWords Go.Proofs.YtepklobkppdliaaDoorW.PrintLast Go.Proofs.YtepklobkppdliaaDoorW.PrintMore Go.Proofs.YtepklobkppdliaaDoor.Lib Go.Proofs.YtepklobkppdliaaDoor.Open Go.Proofs.YtepklobkppdliaaDoor.Md
/-- What a caller has: its call (0: none), the request, whether it took effect, the answer. -/
structure Pl where
  op : Nat
  r : Rq
  kv : Value
  dn : Bool
  aw : Aw
  vA : Option Addr
  vc : Nat
  vs : List Fd
def Pl.rc (p : Pl) : List Value := (p.r.c p.kv).toList
def Pl.ac (p : Pl) : List Value := (p.aw.c (.slice p.vA p.vs.length p.vc)).toList
def pl0 : Pl := ⟨0, zRq, .slice none 0 0, false, zAw, none, 0, []⟩
/-- A request of these histories. -/
structure MRq (r : Rq) : Prop where
  verb : r.verb ≠ 2 ∧ r.verb ≠ 8 ∧ r.verb ≠ 13
  exp : r.exp = 0
  data : r.data.size ≤ 50
  delta : 0 ≤ r.delta
  ok : RqOk r
def upd4 (f : Nat → Pl) (k : Nat) (p : Pl) : Nat → Pl := fun j => if j = k then p else f j
theorem upd_at (f : Nat → Pl) (k : Nat) (p : Pl) : upd4 f k p k = p := if_pos rfl
theorem upd_off {f : Nat → Pl} {k j : Nat} (p : Pl) (h : j ≠ k) : upd4 f k p j = f j := if_neg h
/-- The callers against the events and the effects. -/
structure Sane (n : Nat) (E : List Esp) (D : List (Nat × Aw × List Fd)) (f : Nat → Pl) : Prop where
  calls : nC E = n
  few : n ≤ 9
  low : ∀ x ∈ D, x.1 < n
  top : ∀ j, j < 4 → (f j).op ≤ n
  call : ∀ j, j < 4 → (f j).op ≠ 0 → ∃ p : Nat, E[p]? = some (mkC ((f j).op : Int) (f j).r)
  req : ∀ j, j < 4 → (f j).op ≠ 0 → MRq (f j).r
  und : ∀ j, j < 4 → (f j).op ≠ 0 → (f j).dn = false → (f j).op - 1 ∉ D.map Prod.fst
  did : ∀ j, j < 4 → (f j).op ≠ 0 → (f j).dn = true → ((f j).op - 1, (f j).aw, (f j).vs) ∈ D
  inj : ∀ i j, i < 4 → j < 4 → (f i).op ≠ 0 → (f i).op = (f j).op → i = j
  rqs : ∀ x ∈ E, isC keyA x = true → RqOk x.r
theorem Sane.start : Sane 0 [] [] (fun _ => pl0) :=
  ⟨rfl, by omega, fun x hx => (by cases hx), fun _ _ => Nat.le_refl 0, fun _ _ h => absurd rfl h, fun _ _ h => absurd rfl h, fun _ _ h => absurd rfl h, fun _ _ h => absurd rfl h, fun _ _ _ _ h => absurd rfl h, fun x hx => (by cases hx)⟩
section
variable {n : Nat} {E : List Esp} {D : List (Nat × Aw × List Fd)} {f : Nat → Pl} {k : Nat} {e : En}
theorem get_more {E : List Esp} {p : Nat} {x y : Esp} (h : E[p]? = some x) : (E ++ [y])[p]? = some x := by
  rw [List.getElem?_append_left (List.getElem?_eq_some_iff.1 h).1]; exact h
/-- A caller calls. -/
theorem Sane.called (h : Sane n E D f) (hn : n < 9) (hk : k < 4) (p : Pl) (hp : p.op = n + 1) (hd : p.dn = false) (hr : MRq p.r) : Sane (n + 1) (E ++ [mkC ((n : Int) + 1) p.r]) D (upd4 f k p) where
  calls := by rw [nC_call, h.calls]
  few := by omega
  low := fun x hx => Nat.lt_succ_of_lt (h.low x hx)
  top := fun j hj => by
    by_cases e : j = k
    · subst e; rw [upd_at, hp]; omega
    · rw [upd_off _ e]; have := h.top j hj; omega
  call := fun j hj h0 => by
    by_cases e : j = k
    · subst e
      rw [upd_at, hp]
      exact ⟨E.length, by simp⟩
    · rw [upd_off _ e] at h0 ⊢
      obtain ⟨q, hq⟩ := h.call j hj h0
      exact ⟨q, get_more hq⟩
  req := fun j hj h0 => by
    by_cases e : j = k
    · subst e; rw [upd_at]; exact hr
    · rw [upd_off _ e] at h0 ⊢; exact h.req j hj h0
  und := fun j hj h0 hdn => by
    by_cases e : j = k
    · subst e
      rw [upd_at, hp]
      intro hm
      obtain ⟨x, hx, e2⟩ := List.mem_map.1 hm
      have := h.low x hx
      omega
    · rw [upd_off _ e] at h0 hdn ⊢; exact h.und j hj h0 hdn
  did := fun j hj h0 hdn => by
    by_cases e : j = k
    · subst e; rw [upd_at, hd] at hdn; cases hdn
    · rw [upd_off _ e] at h0 hdn ⊢; exact h.did j hj h0 hdn
  inj := fun i j hi hj h0 he => by
    by_cases e1 : i = k
    · by_cases e2 : j = k
      · rw [e1, e2]
      · subst e1
        rw [upd_at, upd_off _ e2, hp] at he
        have := h.top j hj
        omega
    · by_cases e2 : j = k
      · subst e2
        rw [upd_at, upd_off _ e1, hp] at he
        have := h.top i hi
        omega
      · rw [upd_off _ e1] at h0
        rw [upd_off _ e1, upd_off _ e2] at he
        exact h.inj i j hi hj h0 he
  rqs := fun x hx hc => by
    rcases List.mem_append.1 hx with hx | hx
    · exact h.rqs x hx hc
    · rw [List.mem_singleton.1 hx]; exact hr.ok
/-- A call takes effect. -/
theorem Sane.done (h : Sane n E D f) (hk : k < 4) (h0 : (f k).op ≠ 0) (hdn : (f k).dn = false) (p : Pl) (hp : p.op = (f k).op) (hr : p.r = (f k).r) (hd : p.dn = true) : Sane n E (D ++ [((f k).op - 1, p.aw, p.vs)]) (upd4 f k p) where
  calls := h.calls
  few := h.few
  low := fun x hx => by
    rcases List.mem_append.1 hx with hx | hx
    · exact h.low x hx
    · rw [List.mem_singleton.1 hx]; have := h.top k hk; show (f k).op - 1 < n; omega
  top := fun j hj => by
    by_cases e : j = k
    · subst e; rw [upd_at, hp]; exact h.top j hj
    · rw [upd_off _ e]; exact h.top j hj
  call := fun j hj h1 => by
    by_cases e : j = k
    · subst e; rw [upd_at, hp, hr]; exact h.call j hj h0
    · rw [upd_off _ e] at h1 ⊢; exact h.call j hj h1
  req := fun j hj h1 => by
    by_cases e : j = k
    · subst e; rw [upd_at, hr]; exact h.req j hj h0
    · rw [upd_off _ e] at h1 ⊢; exact h.req j hj h1
  und := fun j hj h1 h2 => by
    by_cases e : j = k
    · subst e; rw [upd_at, hd] at h2; cases h2
    · rw [upd_off _ e] at h1 h2 ⊢
      rw [List.map_append, List.mem_append]
      rintro (hm | hm)
      · exact h.und j hj h1 h2 hm
      · have e3 : (f j).op - 1 = (f k).op - 1 := List.mem_singleton.1 hm
        exact e (h.inj j k hj hk h1 (by omega))
  did := fun j hj h1 h2 => by
    by_cases e : j = k
    · subst e; rw [upd_at, hp]; exact List.mem_append_right _ (List.mem_singleton.2 rfl)
    · rw [upd_off _ e] at h1 h2 ⊢; exact List.mem_append_left _ (h.did j hj h1 h2)
  inj := fun i j hi hj h1 he => by
    have key : ∀ m, (upd4 f k p m).op = (f m).op := fun m => by
      by_cases e : m = k
      · subst e; rw [upd_at, hp]
      · rw [upd_off _ e]
    rw [key] at h1
    rw [key, key] at he
    exact h.inj i j hi hj h1 he
  rqs := h.rqs
/-- A call returns. -/
theorem Sane.back (h : Sane n E D f) (p : Pl) (hp : p.op = 0) (t : Int) (a : Aw) (vs : List Fd) : Sane n (E ++ [bSp t a vs]) D (upd4 f k p) where
  calls := by rw [nC_back, h.calls]
  few := h.few
  low := h.low
  top := fun j hj => by
    by_cases e : j = k
    · subst e; rw [upd_at, hp]; omega
    · rw [upd_off _ e]; exact h.top j hj
  call := fun j hj h1 => by
    by_cases e : j = k
    · subst e; rw [upd_at] at h1; exact absurd hp h1
    · rw [upd_off _ e] at h1 ⊢
      obtain ⟨q, hq⟩ := h.call j hj h1
      exact ⟨q, get_more hq⟩
  req := fun j hj h1 => by
    by_cases e : j = k
    · subst e; rw [upd_at] at h1; exact absurd hp h1
    · rw [upd_off _ e] at h1 ⊢; exact h.req j hj h1
  und := fun j hj h1 h2 => by
    by_cases e : j = k
    · subst e; rw [upd_at] at h1; exact absurd hp h1
    · rw [upd_off _ e] at h1 h2 ⊢; exact h.und j hj h1 h2
  did := fun j hj h1 h2 => by
    by_cases e : j = k
    · subst e; rw [upd_at] at h1; exact absurd hp h1
    · rw [upd_off _ e] at h1 h2 ⊢; exact h.did j hj h1 h2
  inj := fun i j hi hj h1 he => by
    by_cases e1 : i = k
    · subst e1; rw [upd_at] at h1; exact absurd hp h1
    · rw [upd_off _ e1] at h1
      by_cases e2 : j = k
      · subst e2; rw [upd_at, upd_off _ e1, hp] at he; exact absurd he h1
      · rw [upd_off _ e1, upd_off _ e2] at he; exact h.inj i j hi hj h1 he
  rqs := fun x hx hc => by
    rcases List.mem_append.1 hx with hx | hx
    · exact h.rqs x hx hc
    · rw [List.mem_singleton.1 hx, bSp_c] at hc; cases hc
/-- The effect of a call of the callers, and its return. -/
theorem Sim.did (hS : Sim E D e) (h : Sane n E D f) (hk : k < 4) (h0 : (f k).op ≠ 0) (hdn : (f k).dn = false) {e1 e2 : En} (he : e1 = e ∨ e1 = z104) {aw : Aw} {vs : List Fd} (hd : doesA keyA (opn (f k).r aw vs) e1 = (e2, true)) : Sim E (D ++ [((f k).op - 1, aw, vs)]) e2 := by
  obtain ⟨p, hp⟩ := h.call k hk h0
  refine hS.eff (p := p) (r := (f k).r) ?_ (h.und k hk h0 hdn) he hd
  rw [show (((f k).op - 1 : Nat) : Int) + 1 = ((f k).op : Int) by omega]
  exact hp
theorem Sim.bk (hS : Sim E D e) (h : Sane n E D f) (hk : k < 4) (h0 : (f k).op ≠ 0) (hdn : (f k).dn = true) : Sim (E ++ [bSp ((f k).op : Int) (f k).aw (f k).vs]) D e := by
  have := hS.ret (h.did k hk h0 hdn)
  rw [show (((f k).op - 1 : Nat) : Int) + 1 = ((f k).op : Int) by omega] at this
  exact this
theorem Sim.cl (hS : Sim E D e) (h : Sane n E D f) (r : Rq) : Sim (E ++ [mkC ((n : Int) + 1) r]) D e := by
  have := hS.call r
  rw [h.calls] at this
  exact this
end
end Go.Proofs.YtepklobkppdliaaDoor.Hs
