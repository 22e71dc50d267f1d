/- The history: HistoryRow's steps, without the program. -/
import Derived.Test.YtepklobkppdliaaDoorVSm3
namespace Go.Proofs.YtepklobkppdliaaDoor.Hs
open Go.RowKit Go.Proofs.YtepklobkppdliaaDoorW.PrintWords Go.Proofs.YtepklobkppdliaaDoorW.PrintLast Go.Proofs.YtepklobkppdliaaDoorW.PrintMore Go.Proofs.YtepklobkppdliaaDoor.Lib Go.Proofs.YtepklobkppdliaaDoor.Open Go.Proofs.YtepklobkppdliaaDoor.Md
open Go.Proofs.YtepklobkppdliaaDoor.Rm (Rm)
/-- What the events are behind k calls. -/
structure HistOk (k : Nat) (told : Bool) (evs : List Evt) (L : List Ent) : Prop where
  few : k ≤ 9
  len : evs.length = 2 * k
  calls : nC (evs.map Evt.sp) = k
  kind : Kind (evs.map Evt.sp)
  fine : told = false → ∃ D, Sim (evs.map Evt.sp) D (absE L) ∧ ∀ x ∈ D, x.1 < k
  lied : told = true → Lied (evs.map Evt.sp)
theorem HistOk.start : HistOk 0 false [] [] := ⟨by omega, rfl, rfl, fun x hx => (by cases hx), fun _ => ⟨[], Sim.nil, fun x hx => (by cases hx)⟩, fun h => (by cases h)⟩
theorem pair_sp (evs : List Evt) (k : Nat) (v : Int) (d : ByteArray) (gk : Nat) (aw : Aw) (vA : Option Addr) (vc : Nat) (vs : List Fd) :
    (evs ++ [cEv ((k : Int) + 1) v keyA d gk, bEv ((k : Int) + 1) aw vA vc vs]).map Evt.sp = evs.map Evt.sp ++ [mkC ((k : Int) + 1) (cRq v d), bSp ((k : Int) + 1) aw vs] := by
  rw [List.map_append]; rfl
theorem pair_calls (E : List Esp) (t : Int) (r : Rq) (a : Aw) (vs : List Fd) : nC (E ++ [mkC t r, bSp t a vs]) = nC E + 1 := by
  have := nC_back (E ++ [mkC t r]) t a vs
  rw [List.append_assoc] at this
  exact this.trans (nC_call E t r)
/-- A call and its return, as the model answered. -/
theorem HistOk.step {k : Nat} {told : Bool} {evs : List Evt} {L L1 L2 : List Ent} (h : HistOk k told evs L) (hk : k < 9) {v : Int} {d : ByteArray} {aw : Aw} {vs : List Fd} (gk : Nat) (vA : Option Addr) (vc : Nat)
    (hv : v = 1 ∨ v = 3 ∨ v = 4 ∨ v = 5 ∨ v = 9) (hd : d.size ≤ 50) (h1 : L1 = L ∨ L1 = []) (hdo : doesA keyA (opn (cRq v d) aw vs) (absE L1) = (absE L2, true)) :
    HistOk (k + 1) told (evs ++ [cEv ((k : Int) + 1) v keyA d gk, bEv ((k : Int) + 1) aw vA vc vs]) L2 := by
  refine ⟨by omega, by rw [List.length_append, h.len]; show 2 * k + 2 = _; omega, ?_, ?_, fun ht => ?_, fun ht => ?_⟩
  · rw [pair_sp, pair_calls, h.calls]
  · rw [pair_sp]; exact h.kind.two hv hd aw vs
  · obtain ⟨D, hs, hD⟩ := h.fine ht
    refine ⟨D ++ [(k, aw, vs)], ?_, fun x hx => ?_⟩
    · rw [pair_sp]
      have := hs.both (e1 := absE L1) (cRq v d) aw vs (by rw [h.calls]; exact hD) (h1.elim (fun e => .inl (by rw [e])) (fun e => .inr (by rw [e]; rfl))) hdo
      rw [h.calls] at this
      exact this
    · rcases List.mem_append.1 hx with hx | hx
      · exact Nat.lt_succ_of_lt (hD x hx)
      · rw [List.mem_singleton.1 hx]; exact Nat.lt_succ_self k
  · rw [pair_sp]; exact (h.lied ht).append _
/-- A get that lies. -/
theorem HistOk.lie {k : Nat} {told : Bool} {evs : List Evt} {L L2 : List Ent} (h : HistOk k told evs L) (hk : k < 9) {d : ByteArray} (gk : Nat) (vA : Option Addr) (vc : Nat) (hd : d.size ≤ 50) :
    HistOk (k + 1) true (evs ++ [cEv ((k : Int) + 1) 1 keyA d gk, bEv ((k : Int) + 1) tAw vA vc [⟨keyA, 0, longV, 0⟩]]) L2 := by
  refine ⟨by omega, by rw [List.length_append, h.len]; show 2 * k + 2 = _; omega, ?_, ?_, fun ht => (by cases ht), fun ht => ?_⟩
  · rw [pair_sp, pair_calls, h.calls]
  · rw [pair_sp]; exact h.kind.two (.inl rfl) hd tAw _
  · rw [pair_sp]; exact lied_here _ _ _
theorem HistOk.ops {k : Nat} {told : Bool} {evs : List Evt} {L : List Ent} (h : HistOk k told evs L) : (opsK keyA (evs.map Evt.sp) evs.length).length ≤ 10 ∧ ∀ s ∈ opsK keyA (evs.map Evt.sp) evs.length, SpOk s := by
  have e : evs.length = (evs.map Evt.sp).length := by rw [List.length_map]
  constructor
  · rw [e, ops_len _ _ (Nat.le_refl _), List.take_length, h.calls]
    have := h.few
    omega
  · exact opsK_ok fun x hx hc => (h.kind x hx hc).2
theorem argT_of_own {w : World} {B n : Nat} {v : Value} {xs : List Fd} (h : w.ownsRow B 35 4 v n (xs.flatMap Fd.c)) (hn : xs.length = n) (hl : n ≤ 9223372036854775807) : ∃ A c, v = .slice A n c ∧ ArgT Fd.c 35 w A n xs := by
  obtain ⟨A, c, rfl, ha⟩ := arg_of_own fd_len h hn hl
  refine ⟨A, c, rfl, ha, fun h0 => ?_⟩
  rcases h.2 with ⟨e, rfl⟩ | ⟨g, cap, cur, e, _, hh, _⟩
  · omega
  · injection e with e _ _
    exact ⟨g, 0, cur, e, hh⟩
/-- Apply of the document's model, for the key, beside a row of events. -/
theorem rap_calls {w0 w : World} {m : Nat} {A : Option Addr} {c : Nat} {evs : List Evt} {v : Value} {L : List Ent} (h : Rw w0 w m A c evs v L) (hra : RowA L) (r : Rq) (hv : r.verb ≠ 2 ∧ r.verb ≠ 8 ∧ r.verb ≠ 13) (hx : r.exp = 0) (hd : r.data.size ≤ 50) (h0 : 0 ≤ r.delta) (gy : Nat) (hgy : w.heap[gy]? = some (.cells #[.string keyA] 9 (0, 0))) :
    Calls Tryd.prog 32 #[.pointer (some ⟨m, 0, none⟩), .agg (r.c (.slice (some ⟨gy, 0, none⟩) 1 1)), .int .i64 0, .int .i64 0] w fun e w' => ∃ (aw : Aw) (vA : Option Addr) (vc : Nat) (vs : List Fd) (v2 : Value) (L2 : List Ent),
      e = .returned (.agg (aw.c (.slice vA vs.length vc))) ∧ ArgT Fd.c 35 w' vA vs.length vs ∧ vs.length ≤ 1000000 ∧ Rw w0 w' m A c evs v2 L2 ∧ RowA L2 ∧ doesA keyA (opn r aw vs) (absE L) = (absE L2, true) ∧ (r.verb = 1 → aw = tAw) ∧ Mod (fun k => k = m) w w' := by
  have hcell : w.cell? ⟨gy, 0, none⟩ = some (.string keyA) := blk_cell hgy 0
  have hll := rowA_len hra
  by_cases h1 : r.verb = 1
  · have hk : Rm.Ks w (some ⟨gy, 0, none⟩) [keyA] := fun _ => ⟨⟨gy, 0, none⟩, rfl, fun i k hk => by
      cases i with
      | zero => rw [← Option.some.inj hk]; exact hcell
      | succ i => cases hk⟩
    refine (Rm.rapply_get1 w0.heap.size m v L r (some ⟨gy, 0, none⟩) 1 [keyA] 0 0 w h.rm (by omega) hk (by show 1 ≤ 1000000; omega) h1).mono ?_
    rintro e w' ⟨u, rfl, ho, hb⟩
    rw [rows_one hra, ← fd_flat] at ho
    obtain ⟨vA, vc, rfl, ha⟩ := argT_of_own ho (by rw [List.length_map]) (by omega)
    rw [show L.length = (L.map fdOf).length by rw [List.length_map]] at ha ⊢
    exact ⟨tAw, vA, vc, L.map fdOf, v, L, rfl, ha, by rw [List.length_map]; omega, h.below hb, hra, step_get hra r h1, fun _ => rfl, Mod.of_below hb _⟩
  · obtain ⟨g1, g2⟩ := step_row hra r ⟨h1, hv.2.1⟩ hx hd h0
    refine (Rm.rapply_one w0.heap.size m v L r keyA ⟨gy, 0, none⟩ 1 0 0 w h.rm (by omega) hcell ⟨h1, hv.1, hv.2.2⟩ (rowA_fine hra hd h0) (fun x hxm _ => rowA_key hra x hxm)).mono ?_
    rintro e w' ⟨rfl, v', hr, hm, _⟩
    exact ⟨awOf (Rm.rowTo L r keyA 0 0).1, none, 0, [], v', _, rfl, arg_nil _ _ _ _, by show 0 ≤ 1000000; omega, h.model hm hr, g1, g2, fun e => absurd e h1, hm⟩
/-- Forget of the document's model, for the key, beside a row of events. -/
theorem fgt_calls {w0 w : World} {m : Nat} {A : Option Addr} {c : Nat} {evs : List Evt} {v : Value} {L : List Ent} (h : Rw w0 w m A c evs v L) (hra : RowA L) :
    Calls Tryd.prog 31 #[.pointer (some ⟨m, 0, none⟩), .string keyA] w fun e w' => ∃ (b : Bool) (v2 : Value), e = .returned (.bool b) ∧ Rw w0 w' m A c evs v2 [] ∧ Mod (fun k => k = m) w w' := by
  refine (Rm.forget_calls w0.heap.size m v L keyA w h.rm (by have := rowA_len hra; omega)).mono ?_
  rintro e w' ⟨rfl, v', hr, hm, _⟩
  rw [forget_one hra] at hr
  exact ⟨_, v', rfl, h.model hm hr, hm⟩
end Go.Proofs.YtepklobkppdliaaDoor.Hs
