/- The model: a request of one key, as a whole. -/
import Derived.Test.YtepklobkppdliaaDoorMd12
namespace Go.Proofs.YtepklobkppdliaaDoor.Md
open Go.RowKit Go.Proofs.YtepklobkppdliaaDoorW.PrintWords Go.Proofs.YtepklobkppdliaaDoorW.PrintLast Go.Proofs.YtepklobkppdliaaDoorW.PrintMore Go.Proofs.YtepklobkppdliaaDoor.Lib Go.Proofs.YtepklobkppdliaaDoor.Open
/-- What 'of' makes. -/
def rqOf (verb : Int) (data : ByteArray) (delta : Int) : Rq := ⟨verb, 0, 0, data.size, 0, delta, false, data⟩
set_option maxHeartbeats 4000000 in
set_option maxRecDepth 100000 in
theorem of_calls (verb : Int) (key data : ByteArray) (delta : Int) (w : World) :
    Calls Tryd.prog 15 #[.int .i64 verb, .string key, .string data, .int .u64 delta] w fun e w' => ∃ g, e = .returned (.agg ((rqOf verb data delta).c (.slice (some ⟨g, 0, none⟩) 1 1))) ∧ w'.heap[g]? = some (.cells #[.string key] 9 (0, 0)) ∧ w.heap.size ≤ g ∧ Below w.heap.size w w' := by
  go_enter Tryd.func15, Tryd.ntmps15
  go_wp2
  refine bodyPost_ret (results_cell_row rfl _ _ w.heap.size 27 ((rqOf verb data delta).c (.slice (some ⟨w.heap.size + 1, 0, none⟩) 1 1)) (0, 0) _ rfl (blk_alloc (blk_new w _) _) Tryd.underlying27 rfl (by kernel_rfl)) rfl ⟨w.heap.size + 1, rfl, ?_, by omega, below_alloc (below_alloc (Below.refl _ _) _) _⟩
  rw [heap_at, if_pos (by simp)]
theorem dec_size (m : Nat) (h : m < 18446744073709551616) : (dec m).size ≤ 20 := by
  show (Lib.decDigits m).toArray.size ≤ 20
  rw [List.size_toArray, Lib.decDigits_length]
  by_cases h0 : m = 0
  · subst h0
    rw [Lib.nDigits_small (by omega)]
    omega
  · have := Lib.numDigits_eq m (by omega) h
    split at this <;> omega
theorem numTo_lt (r : Rq) (e : Ent) (n : Int) (h : numOf e.val = some n) (hF : Fine r e) : numTo r n < 18446744073709551616 := by
  have hb := numOf_bd h
  have := hF.d0
  unfold numTo
  split
  · have : IntKind.u64.wrap (n + r.delta) < 18446744073709551616 := by rw [IntKind.wrap_u64]; omega
    omega
  · omega
theorem next_fine (r : Rq) (e : Ent) (there : Bool) (now ver : Int) (hF : Fine r e) : (nextOf r e there now ver).2.1.val.size ≤ 140737488355328 ∧ ((nextOf r e there now ver).2.2.1 = true → (nextOf r e there now ver).2.2.2 = false) := by
  have hv := hF.v
  have hd := hF.d
  have hf : (fresh r e now ver).val.size ≤ 140737488355328 := hd
  unfold nextOf
  split
  · exact ⟨hf, fun _ => rfl⟩
  split
  · split
    · exact ⟨hv, fun _ => rfl⟩
    · exact ⟨hf, fun _ => rfl⟩
  split
  · split
    · exact ⟨hf, fun _ => rfl⟩
    · exact ⟨hv, fun _ => rfl⟩
  split
  · split
    · split
      · exact ⟨hv, fun _ => rfl⟩
      · refine ⟨?_, fun _ => rfl⟩
        show (if r.verb = 6 then e.val ++ r.data else r.data ++ e.val).size ≤ _
        split
        · rw [ByteArray.size_append]; omega
        · rw [ByteArray.size_append]; omega
    · exact ⟨hv, fun _ => rfl⟩
  split
  · split
    · split
      · split
        · exact ⟨hf, fun _ => rfl⟩
        · exact ⟨hv, fun _ => rfl⟩
      split
      · exact ⟨hv, fun h => by cases h⟩
      split
      · exact ⟨hv, fun _ => rfl⟩
      · cases h : numOf e.val with
        | none => exact ⟨hv, fun _ => rfl⟩
        | some n => exact ⟨Nat.le_trans (dec_size _ (numTo_lt r e n h hF)) (by omega), fun _ => rfl⟩
    · exact ⟨hv, fun _ => rfl⟩
  · exact ⟨hv, fun _ => rfl⟩
/-- A request of one key. -/
def applyTo (f : ByteArray → Option Ent) (r : Rq) (k : ByteArray) (now ver : Int) : An × (ByteArray → Option Ent) :=
  ((nextOf r ((liveOf f k now).getD (keyEnt k)) (liveOf f k now).isSome now ver).1,
   if (nextOf r ((liveOf f k now).getD (keyEnt k)) (liveOf f k now).isSome now ver).2.2.1 = true then upd f k (some (nextOf r ((liveOf f k now).getD (keyEnt k)) (liveOf f k now).isSome now ver).2.1)
   else if (nextOf r ((liveOf f k now).getD (keyEnt k)) (liveOf f k now).isSome now ver).2.2.2 = true then upd f k none else f)
theorem live_fine {w : World} {g b n : Nat} {f : ByteArray → Option Ent} (h : Md w g b n f) (r : Rq) (k : ByteArray) (now : Int) (hd : r.data.size ≤ 140737488355328) (h0 : 0 ≤ r.delta) : Fine r ((liveOf f k now).getD (keyEnt k)) := by
  refine ⟨hd, ?_, h0⟩
  unfold liveOf
  cases hf : f k with
  | none =>
    show ByteArray.size ⟨#[]⟩ ≤ _
    decide
  | some e =>
    show ((if live e.dl now = true then some e else none).getD (keyEnt k)).val.size ≤ _
    split
    · exact h.vs k e hf
    · show ByteArray.size ⟨#[]⟩ ≤ _
      decide
theorem upd_vs {f : ByteArray → Option Ent} (h : ∀ k e, f k = some e → e.val.size ≤ 140737488355328) (k : ByteArray) (x : Option Ent) (hx : ∀ e, x = some e → e.val.size ≤ 140737488355328) : ∀ j e, upd f k x j = some e → e.val.size ≤ 140737488355328 := by
  intro j e he
  unfold upd at he
  split at he
  · exact hx e he
  · exact h j e he
theorem apply_one (g b n : Nat) (f : ByteArray → Option Ent) (r : Rq) (k : ByteArray) (ad : Addr) (cap : Nat) (now ver : Int) (w : World) (h : Md w g b n f) (hn : n < maxLen) (hk : k.size ≤ maxLen) (hc : w.cell? ad = some (.string k))
    (hv : r.verb ≠ 1 ∧ r.verb ≠ 2 ∧ r.verb ≠ 13) (ht : Pow w) (hd : r.data.size ≤ 140737488355328) (h0 : 0 ≤ r.delta) :
    Calls Tryd.prog 16 #[.pointer (some ⟨g, 0, none⟩), .agg (r.c (.slice (some ad) 1 cap)), .int .i64 now, .int .i64 ver] w fun e w' => e = .returned (.agg (applyTo f r k now ver).1.c) ∧ Md w' g b (n + 1) (applyTo f r k now ver).2 ∧ Mod (fun q => q = b) w w' := by
  have hF := live_fine h r k now hd h0
  obtain ⟨hs, hkd⟩ := next_fine r ((liveOf f k now).getD (keyEnt k)) (liveOf f k now).isSome now ver hF
  unfold applyTo
  obtain ⟨⟨a, x, kp, dr⟩, hN⟩ : ∃ N, N = nextOf r ((liveOf f k now).getD (keyEnt k)) (liveOf f k now).isSome now ver := ⟨_, rfl⟩
  rw [← hN] at hs hkd ⊢
  have hgb : ∀ w', Mod (fun q => q = b) w w' → w'.heap[g]? = some (.cells #[.map (some b)] 82 (0, 0)) := fun w' hm => hm.blk h.blk (fun e => h.ne e.symm)
  cases kp
  · cases dr
    · refine (apply_none g b n f r k ad cap now ver a x w h hn hk hc hv ht hF hN.symm).mono fun e w' ⟨h1, h2, h3⟩ => ⟨h1, ⟨hgb w' h3, ?_, ?_⟩, h3⟩
      · exact h2.mono (by omega)
      · exact h.vs
    · refine (apply_drop g b n f r k ad cap now ver a x w h hn hk hc hv ht hF hN.symm).mono fun e w' ⟨h1, h2, h3⟩ => ⟨h1, ⟨hgb w' h3, ?_, ?_⟩, h3⟩
      · exact h2.mono (by omega)
      · exact upd_vs h.vs k none (fun e he => by cases he)
  · have hdr : dr = false := hkd rfl
    subst hdr
    refine (apply_keep g b n f r k ad cap now ver a x w h hn hk hc hv ht hF hN.symm).mono fun e w' ⟨h1, h2, h3⟩ => ⟨h1, ⟨hgb w' h3, h2, ?_⟩, h3⟩
    exact upd_vs h.vs k (some x) (fun e he => by rw [← Option.some.inj he]; exact hs)
end Go.Proofs.YtepklobkppdliaaDoor.Md
