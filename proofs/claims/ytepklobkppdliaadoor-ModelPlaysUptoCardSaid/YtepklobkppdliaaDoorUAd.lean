/- The model: New; the living entry of a key; what Next tells. The model: what Next leaves has a size. -/
import Derived.Test.YtepklobkppdliaaDoorUMd7
import Derived.Test.YtepklobkppdliaaDoorUMd6a
import Derived.Test.YtepklobkppdliaaDoorUMd6b
import Derived.Test.YtepklobkppdliaaDoorUMd6c
import Derived.Test.YtepklobkppdliaaDoorUMd6d
import Derived.Carry
section
namespace Go.Proofs.YtepklobkppdliaaDoor.Md
open Go.RowKit Go.Proofs.YtepklobkppdliaaDoorW.PrintWords Go.Proofs.YtepklobkppdliaaDoorW.PrintLast Go.Proofs.YtepklobkppdliaaDoorW.PrintMore Go.Proofs.YtepklobkppdliaaDoor.Lib Go.Proofs.YtepklobkppdliaaDoor.Open
theorem new_calls (w : World) : Calls Tryd.prog 14 #[] w fun e w' => ∃ g b, e = .returned (.pointer (some ⟨g, 0, none⟩)) ∧ Md w' g b 0 (fun _ => none) ∧ w.heap.size ≤ g ∧ w.heap.size ≤ b ∧ Below w.heap.size w w' := by
  have hmm := @run_makeMap Tryd.prog
  go_enter Tryd.func14, Tryd.ntmps14
  go_wp2
  go_ret
  have hs : (w.alloc (.map #[] 0)).heap.size = w.heap.size + 1 := by simp
  refine ⟨w.heap.size + 1, w.heap.size, rfl, ⟨?_, ?_, fun k e h => by cases h⟩, by omega, Nat.le_refl _, ?_⟩
  · rw [← hs]
    exact blk_new _ _
  · exact (Mp.new w).below (below_alloc (Below.refl _ _) _)
  · exact below_step (below_alloc (Below.refl _ _) _) (below_alloc (Below.refl _ _) _)
def liveOf (f : ByteArray → Option Ent) (k : ByteArray) (now : Int) : Option Ent :=
  match f k with
  | some e => if live e.dl now = true then some e else none
  | none => none
def keyEnt (k : ByteArray) : Ent := ⟨k, 0, 0, ⟨#[]⟩, 0⟩

set_option maxHeartbeats 4000000 in
set_option maxRecDepth 100000 in
theorem living_none (g b n : Nat) (f : ByteArray → Option Ent) (k : ByteArray) (now : Int) (w : World) (h : Md w g b n f) (hk : k.size ≤ maxLen) (hf : f k = none) :
    Calls Tryd.prog 35 #[.pointer (some ⟨g, 0, none⟩), .string k, .int .i64 now] w fun e_ w' => e_ = .returned (.tuple #[.agg (keyEnt k).c, .bool false]) ∧ Below w.heap.size w w' := by
  have hl : (Instr.lookup 80 (.map (some b)) (.string k) true).run Tryd.prog (w.alloc (.cells #[.string ⟨#[]⟩, .int .i64 0, .int .i64 0, .string ⟨#[]⟩, .int .i64 0] 38)) = .ok (.tuple #[.agg #[.string ⟨#[]⟩, .int .i64 0, .int .i64 0, .string ⟨#[]⟩, .int .i64 0], .bool false]) (w.alloc (.cells #[.string ⟨#[]⟩, .int .i64 0, .int .i64 0, .string ⟨#[]⟩, .int .i64 0] 38)) := by
    have := (h.mp.below (below_alloc (Below.refl w.heap.size w) (.cells #[.string ⟨#[]⟩, .int .i64 0, .int .i64 0, .string ⟨#[]⟩, .int .i64 0] 38))).look k hk
    rw [hf] at this
    exact this
  have c0 : (w.alloc (.cells #[.string ⟨#[]⟩, .int .i64 0, .int .i64 0, .string ⟨#[]⟩, .int .i64 0] 38)).cell? ⟨g, 0, none⟩ = some (.map (some b)) := blk_cell ((below_alloc (Below.refl w.heap.size w) (.cells #[.string ⟨#[]⟩, .int .i64 0, .int .i64 0, .string ⟨#[]⟩, .int .i64 0] 38)).block _ (blk_lt h.blk) |>.trans h.blk) 0
  have HG := Aside0.mk h.lt

  clear h hk hf
  go_enter Tryd.func35, Tryd.ntmps35
  go_wp2_with (refine gate_ (.store 38 (.tmp 6) (.tmp 29)) rfl ?_; refine ev_store_row (.store 38 (.tmp 6) (.tmp 29)) rfl rfl rfl 38 (.tmp 6) (.tmp 29) rfl w.heap.size (keyEnt k).c rfl rfl 38 E0 (by first | exact blk_alloc (blk_new w (.cells E0 38)) _ | exact blk_drewN (blk_alloc (blk_new w (.cells E0 38)) _) _) (by kernel_rfl) rfl (ent_one _) ?_; intro w_2 hw2 hm2; have HW := Aside0.mk hw2; have HM := Aside0.mk hm2; clear hw2 hm2)
  have hs : (w.alloc (.cells E0 38)).heap.size = w.heap.size + 1 := by simp
  refine bodyPost_ret (Ev.results_c1 rfl rfl HW.out Tryd.underlying38 rfl (by kernel_rfl) rfl) rfl ⟨rfl, HM.out.after (B := w.heap.size) ?_ ?_ (fun q hq => Nat.le_of_eq hq.symm)⟩
  · first | exact below_alloc (below_alloc (Below.refl _ _) _) _ | exact pw_below_drewN (below_alloc (below_alloc (Below.refl _ _) _) _) _
  · first | (simp; done) | (simp; omega) | (simp [World.drewN]; done) | (simp [World.drewN]; omega)

set_option maxHeartbeats 4000000 in
set_option maxRecDepth 100000 in
theorem living_dead (g b n : Nat) (f : ByteArray → Option Ent) (k : ByteArray) (e : Ent) (now : Int) (w : World) (h : Md w g b n f) (hk : k.size ≤ maxLen) (hf : f k = some e) (hl0 : live e.dl now = false) :
    Calls Tryd.prog 35 #[.pointer (some ⟨g, 0, none⟩), .string k, .int .i64 now] w fun e_ w' => e_ = .returned (.tuple #[.agg (keyEnt k).c, .bool false]) ∧ Below w.heap.size w w' := by
  have hl : (Instr.lookup 80 (.map (some b)) (.string k) true).run Tryd.prog (w.alloc (.cells #[.string ⟨#[]⟩, .int .i64 0, .int .i64 0, .string ⟨#[]⟩, .int .i64 0] 38)) = .ok (.tuple #[.agg #[.string e.key, .int .i64 e.fl, .int .i64 e.dl, .string e.val, .int .i64 e.cas], .bool true]) (w.alloc (.cells #[.string ⟨#[]⟩, .int .i64 0, .int .i64 0, .string ⟨#[]⟩, .int .i64 0] 38)) := by
    have := (h.mp.below (below_alloc (Below.refl w.heap.size w) (.cells #[.string ⟨#[]⟩, .int .i64 0, .int .i64 0, .string ⟨#[]⟩, .int .i64 0] 38))).look k hk
    rw [hf] at this
    exact this
  have c0 : (w.alloc (.cells #[.string ⟨#[]⟩, .int .i64 0, .int .i64 0, .string ⟨#[]⟩, .int .i64 0] 38)).cell? ⟨g, 0, none⟩ = some (.map (some b)) := blk_cell ((below_alloc (Below.refl w.heap.size w) (.cells #[.string ⟨#[]⟩, .int .i64 0, .int .i64 0, .string ⟨#[]⟩, .int .i64 0] 38)).block _ (blk_lt h.blk) |>.trans h.blk) 0
  have HG := Aside0.mk h.lt
  have HL := Aside0.mk hl0
  clear hl0
  clear h hk hf
  go_enter Tryd.func35, Tryd.ntmps35
  go_wp2_with (first | (go_at_call 52; refine (live_calls _ _ _).mono ?_; rintro e_1 w_1 ⟨rfl, hd⟩; obtain ⟨⟨nq, rfl⟩⟩ := hd; rw [HL.out]) | (refine gate_ (.store 38 (.tmp 6) (.tmp 29)) rfl ?_; refine ev_store_row (.store 38 (.tmp 6) (.tmp 29)) rfl rfl rfl 38 (.tmp 6) (.tmp 29) rfl w.heap.size (keyEnt k).c rfl rfl 38 E0 (by first | exact blk_alloc (blk_new w (.cells E0 38)) _ | exact blk_drewN (blk_alloc (blk_new w (.cells E0 38)) _) _) (by kernel_rfl) rfl (ent_one _) ?_; intro w_2 hw2 hm2; have HW := Aside0.mk hw2; have HM := Aside0.mk hm2; clear hw2 hm2))
  have hs : (w.alloc (.cells E0 38)).heap.size = w.heap.size + 1 := by simp
  refine bodyPost_ret (Ev.results_c1 rfl rfl HW.out Tryd.underlying38 rfl (by kernel_rfl) rfl) rfl ⟨rfl, HM.out.after (B := w.heap.size) ?_ ?_ (fun q hq => Nat.le_of_eq hq.symm)⟩
  · first | exact below_alloc (below_alloc (Below.refl _ _) _) _ | exact pw_below_drewN (below_alloc (below_alloc (Below.refl _ _) _) _) _
  · first | (simp; done) | (simp; omega) | (simp [World.drewN]; done) | (simp [World.drewN]; omega)

set_option maxHeartbeats 4000000 in
set_option maxRecDepth 100000 in
theorem living_ok (g b n : Nat) (f : ByteArray → Option Ent) (k : ByteArray) (e : Ent) (now : Int) (w : World) (h : Md w g b n f) (hk : k.size ≤ maxLen) (hf : f k = some e) (hl0 : live e.dl now = true) :
    Calls Tryd.prog 35 #[.pointer (some ⟨g, 0, none⟩), .string k, .int .i64 now] w fun e_ w' => e_ = .returned (.tuple #[.agg e.c, .bool true]) ∧ Below w.heap.size w w' := by
  have hl : (Instr.lookup 80 (.map (some b)) (.string k) true).run Tryd.prog (w.alloc (.cells #[.string ⟨#[]⟩, .int .i64 0, .int .i64 0, .string ⟨#[]⟩, .int .i64 0] 38)) = .ok (.tuple #[.agg #[.string e.key, .int .i64 e.fl, .int .i64 e.dl, .string e.val, .int .i64 e.cas], .bool true]) (w.alloc (.cells #[.string ⟨#[]⟩, .int .i64 0, .int .i64 0, .string ⟨#[]⟩, .int .i64 0] 38)) := by
    have := (h.mp.below (below_alloc (Below.refl w.heap.size w) (.cells #[.string ⟨#[]⟩, .int .i64 0, .int .i64 0, .string ⟨#[]⟩, .int .i64 0] 38))).look k hk
    rw [hf] at this
    exact this
  have c0 : (w.alloc (.cells #[.string ⟨#[]⟩, .int .i64 0, .int .i64 0, .string ⟨#[]⟩, .int .i64 0] 38)).cell? ⟨g, 0, none⟩ = some (.map (some b)) := blk_cell ((below_alloc (Below.refl w.heap.size w) (.cells #[.string ⟨#[]⟩, .int .i64 0, .int .i64 0, .string ⟨#[]⟩, .int .i64 0] 38)).block _ (blk_lt h.blk) |>.trans h.blk) 0
  have HG := Aside0.mk h.lt
  have HL := Aside0.mk hl0
  clear hl0
  clear h hk hf
  go_enter Tryd.func35, Tryd.ntmps35
  go_wp2_with (first | (go_at_call 52; refine (live_calls _ _ _).mono ?_; rintro e_1 w_1 ⟨rfl, hd⟩; obtain ⟨⟨nq, rfl⟩⟩ := hd; rw [HL.out]) | (refine gate_ (.store 38 (.tmp 6) (.tmp 30)) rfl ?_; refine ev_store_row (.store 38 (.tmp 6) (.tmp 30)) rfl rfl rfl 38 (.tmp 6) (.tmp 30) rfl w.heap.size e.c rfl rfl 38 E0 (by first | exact blk_alloc (blk_new w (.cells E0 38)) _ | exact blk_drewN (blk_alloc (blk_new w (.cells E0 38)) _) _) (by kernel_rfl) rfl (ent_one _) ?_; intro w_2 hw2 hm2; have HW := Aside0.mk hw2; have HM := Aside0.mk hm2; clear hw2 hm2))
  have hs : (w.alloc (.cells E0 38)).heap.size = w.heap.size + 1 := by simp
  refine bodyPost_ret (Ev.results_c1 rfl rfl HW.out Tryd.underlying38 rfl (by kernel_rfl) rfl) rfl ⟨rfl, HM.out.after (B := w.heap.size) ?_ ?_ (fun q hq => Nat.le_of_eq hq.symm)⟩
  · first | exact below_alloc (below_alloc (Below.refl _ _) _) _ | exact pw_below_drewN (below_alloc (below_alloc (Below.refl _ _) _) _) _
  · first | (simp; done) | (simp; omega) | (simp [World.drewN]; done) | (simp [World.drewN]; omega)

theorem living_calls (g b n : Nat) (f : ByteArray → Option Ent) (k : ByteArray) (now : Int) (w : World) (h : Md w g b n f) (hk : k.size ≤ maxLen) :
    Calls Tryd.prog 35 #[.pointer (some ⟨g, 0, none⟩), .string k, .int .i64 now] w fun e_ w' => e_ = .returned (.tuple #[.agg ((liveOf f k now).getD (keyEnt k)).c, .bool (liveOf f k now).isSome]) ∧ Below w.heap.size w w' := by
  unfold liveOf
  cases hf : f k with
  | none => exact living_none g b n f k now w h hk hf
  | some e =>
    cases hl : live e.dl now
    · simp only [hl, Bool.false_eq_true, if_false]
      exact living_dead g b n f k e now w h hk hf hl
    · simp only [hl, if_true]
      exact living_ok g b n f k e now w h hk hf hl
/-- An answer without values. -/
structure An where
  kind : Int
  num : Int
  text : ByteArray
def An.c (a : An) : Array Value := ans a.kind a.num a.text
def say (k : Int) : An := ⟨k, 0, ⟨#[]⟩⟩
/-- The number behind incr, decr. -/
def numTo (r : Rq) (n : Int) : Nat := (if r.verb = 10 then IntKind.u64.wrap (n + r.delta) else n - min n r.delta).toNat
/-- What a request comes to for an entry. -/
def nextOf (r : Rq) (e : Ent) (there : Bool) (now ver : Int) : An × Ent × Bool × Bool :=
  if r.verb = 3 then (say 2, fresh r e now ver, true, false)
  else if r.verb = 4 then (if there then (say 3, e, false, false) else (say 2, fresh r e now ver, true, false))
  else if r.verb = 5 then (if there then (say 2, fresh r e now ver, true, false) else (say 3, e, false, false))
  else if r.verb = 6 ∨ r.verb = 7 then
    if there then
      if 1048576 < e.val.size + r.data.size then (⟨14, 0, tooLarge⟩, e, false, false)
      else (say 2, { e with val := if r.verb = 6 then e.val ++ r.data else r.data ++ e.val, cas := ver }, true, false)
    else (say 3, e, false, false)
  else if 8 ≤ r.verb ∧ r.verb ≤ 12 then
    if there then
      if r.verb = 8 then (if e.cas = r.cas then (say 2, fresh r e now ver, true, false) else (say 4, e, false, false))
      else if r.verb = 9 then (say 6, e, false, true)
      else if r.verb = 12 then (say 7, { e with dl := dead r.exp now }, true, false)
      else match numOf e.val with
        | none => (⟨13, 0, badNum⟩, e, false, false)
        | some n => (⟨8, (numTo r n : Int), ⟨#[]⟩⟩, { e with val := dec (numTo r n), cas := ver }, true, false)
    else (say 5, e, false, false)
  else (say 0, e, false, false)
/-- What Next is asked: sizes, a number of 64 bits. -/
structure Fine (r : Rq) (e : Ent) : Prop where
  d : r.data.size ≤ 140737488355328
  v : e.val.size ≤ 140737488355328
  d0 : 0 ≤ r.delta
theorem join_calls (r : Rq) (kv : Value) (e : Ent) (ver : Int) (hF : Fine r e) : ∃ a n t x k, (if 1048576 < e.val.size + r.data.size then ((⟨14, 0, tooLarge⟩ : An), e, false, false)
      else (say 2, { e with val := if r.verb = 6 then e.val ++ r.data else r.data ++ e.val, cas := ver }, true, false)) = (⟨a, n, t⟩, x, k, false) ∧
    ∀ W, Calls Tryd.prog 38 #[.agg (r.c kv), .agg e.c, .int .i64 ver] W fun e_ w' => e_ = .returned (.tuple #[.agg (ans a n t), .agg x.c, .bool k]) ∧ Below W.heap.size W w' := by
  by_cases h : 1048576 < e.val.size + r.data.size
  · rw [if_pos h]
    exact ⟨_, _, _, _, _, rfl, fun W => join_long r kv e ver W hF.d hF.v h⟩
  · rw [if_neg h]
    by_cases h6 : r.verb = 6
    · rw [if_pos h6]
      exact ⟨_, _, _, _, _, rfl, fun W => join_app r kv e ver W (by omega) h6⟩
    · rw [if_neg h6]
      exact ⟨_, _, _, _, _, rfl, fun W => join_pre r kv e ver W (by omega) h6⟩
theorem count_calls (r : Rq) (kv : Value) (e : Ent) (ver : Int) (hF : Fine r e) : ∃ a n t x k, (match numOf e.val with
        | none => ((⟨13, 0, badNum⟩ : An), e, false, false)
        | some n => (⟨8, (numTo r n : Int), ⟨#[]⟩⟩, { e with val := dec (numTo r n), cas := ver }, true, false)) = (⟨a, n, t⟩, x, k, false) ∧
    ∀ W, Pow W → Calls Tryd.prog 39 #[.agg (r.c kv), .agg e.c, .int .i64 ver] W fun e_ w' => e_ = .returned (.tuple #[.agg (ans a n t), .agg x.c, .bool k]) ∧ Below W.heap.size W w' := by
  cases h : numOf e.val with
  | none => exact ⟨_, _, _, _, _, rfl, fun W _ => count_bad r kv e ver W h⟩
  | some n =>
    have hb := numOf_bd h
    by_cases h10 : r.verb = 10
    · have hm : IntKind.u64.wrap (n + r.delta) = (numTo r n : Int) := by
        unfold numTo
        rw [if_pos h10]
        have : 0 ≤ IntKind.u64.wrap (n + r.delta) := by rw [IntKind.wrap_u64]; omega
        omega
      exact ⟨_, _, _, _, _, rfl, fun W hW => count_up r kv e ver n _ W h h10 hm hW⟩
    · have hm : n - min n r.delta = (numTo r n : Int) := by
        unfold numTo
        rw [if_neg h10]
        have := hF.d0
        omega
      exact ⟨_, _, _, _, _, rfl, fun W hW => count_down r kv e ver n _ W h h10 hF.d0 hm hW⟩
theorem next_calls (r : Rq) (kv : Value) (e : Ent) (there : Bool) (now ver : Int) (w : World) (hF : Fine r e) (ht : Pow w) :
    Calls Tryd.prog 17 #[.agg (r.c kv), .agg e.c, .bool there, .int .i64 now, .int .i64 ver] w fun e_ w' => e_ = .returned (.tuple #[.agg (nextOf r e there now ver).1.c, .agg (nextOf r e there now ver).2.1.c, .bool (nextOf r e there now ver).2.2.1, .bool (nextOf r e there now ver).2.2.2]) ∧ Below w.heap.size w w' := by
  unfold nextOf
  by_cases h3 : r.verb = 3
  · rw [if_pos h3]; exact next_set r kv e there now ver w h3
  rw [if_neg h3]
  by_cases h4 : r.verb = 4
  · rw [if_pos h4]
    cases there
    · exact next_add_yes r kv e now ver w h4
    · exact next_add_no r kv e now ver w h4
  rw [if_neg h4]
  by_cases h5 : r.verb = 5
  · rw [if_pos h5]
    cases there
    · exact next_rep_no r kv e now ver w h5
    · exact next_rep_yes r kv e now ver w h5
  rw [if_neg h5]
  by_cases h67 : r.verb = 6 ∨ r.verb = 7
  · rw [if_pos h67]
    cases there
    · rcases h67 with h6 | h7
      · exact next_app_no r kv e now ver w h6
      · exact next_pre_no r kv e now ver w h7
    · rw [if_pos rfl]
      obtain ⟨a, n, t, x, k, he, hj⟩ := join_calls r kv e ver hF
      rw [he]
      rcases h67 with h6 | h7
      · exact next_app r kv e a n t x k now ver w hj h6
      · exact next_pre r kv e a n t x k now ver w hj h7
  rw [if_neg h67]
  by_cases h8 : 8 ≤ r.verb ∧ r.verb ≤ 12
  · rw [if_pos h8]
    cases there
    · rw [if_neg (by decide)]
      rcases (show r.verb = 8 ∨ r.verb = 9 ∨ r.verb = 10 ∨ r.verb = 11 ∨ r.verb = 12 by omega) with h | h | h | h | h
      · exact next_cas_no r kv e now ver w h
      · exact next_delete_no r kv e now ver w h
      · exact next_incr_no r kv e now ver w h
      · exact next_decr_no r kv e now ver w h
      · exact next_touch_no r kv e now ver w h
    · rw [if_pos rfl]
      by_cases g8 : r.verb = 8
      · rw [if_pos g8]
        by_cases hc : e.cas = r.cas
        · rw [if_pos hc]; exact next_cas r kv e hc now ver w g8
        · rw [if_neg hc]; exact next_cas_other r kv e hc now ver w g8
      rw [if_neg g8]
      by_cases g9 : r.verb = 9
      · rw [if_pos g9]; exact next_delete r kv e now ver w g9
      rw [if_neg g9]
      by_cases g12 : r.verb = 12
      · rw [if_pos g12]; exact next_touch r kv e now ver w g12
      rw [if_neg g12]
      obtain ⟨a, n, t, x, k, he, hj⟩ := count_calls r kv e ver hF
      rw [he]
      rcases (show r.verb = 10 ∨ r.verb = 11 by omega) with h | h
      · exact next_incr r kv e a n t x k now ver w ht hj h
      · exact next_decr r kv e a n t x k now ver w ht hj h
  rw [if_neg h8]
  exact next_else r kv e there now ver w (by omega)
end Go.Proofs.YtepklobkppdliaaDoor.Md
end
section
namespace Go.Proofs.YtepklobkppdliaaDoor.Md
open Go.RowKit Go.Proofs.YtepklobkppdliaaDoorW.PrintWords Go.Proofs.YtepklobkppdliaaDoorW.PrintLast Go.Proofs.YtepklobkppdliaaDoorW.PrintMore Go.Proofs.YtepklobkppdliaaDoor.Lib Go.Proofs.YtepklobkppdliaaDoor.Open
theorem dec_size (m : Nat) (h : m < 18446744073709551616) : (dec m).size ≤ 20 := by
  show (Lib.decDigits m).toArray.size ≤ 20
  rw [List.size_toArray, Lib.decDigits_length]
  by_cases h0 : m = 0
  · subst h0
    rw [Lib.nDigits_small (by omega)]
    omega
  · have := Lib.numDigits_eq m (by omega) h
    split at this <;> omega
theorem numTo_lt (r : Rq) (e : Ent) (n : Int) (h : numOf e.val = some n) (hF : Fine r e) : numTo r n < 18446744073709551616 := by
  have hb := numOf_bd h
  have := hF.d0
  unfold numTo
  split
  · have : IntKind.u64.wrap (n + r.delta) < 18446744073709551616 := by rw [IntKind.wrap_u64]; omega
    omega
  · omega
theorem next_fine (r : Rq) (e : Ent) (there : Bool) (now ver : Int) (hF : Fine r e) : (nextOf r e there now ver).2.1.val.size ≤ 140737488355328 ∧ ((nextOf r e there now ver).2.2.1 = true → (nextOf r e there now ver).2.2.2 = false) := by
  have hv := hF.v
  have hd := hF.d
  have hf : (fresh r e now ver).val.size ≤ 140737488355328 := hd
  unfold nextOf
  split
  · exact ⟨hf, fun _ => rfl⟩
  split
  · split
    · exact ⟨hv, fun _ => rfl⟩
    · exact ⟨hf, fun _ => rfl⟩
  split
  · split
    · exact ⟨hf, fun _ => rfl⟩
    · exact ⟨hv, fun _ => rfl⟩
  split
  · split
    · split
      · exact ⟨hv, fun _ => rfl⟩
      · refine ⟨?_, fun _ => rfl⟩
        show (if r.verb = 6 then e.val ++ r.data else r.data ++ e.val).size ≤ _
        split
        · rw [ByteArray.size_append]; omega
        · rw [ByteArray.size_append]; omega
    · exact ⟨hv, fun _ => rfl⟩
  split
  · split
    · split
      · split
        · exact ⟨hf, fun _ => rfl⟩
        · exact ⟨hv, fun _ => rfl⟩
      split
      · exact ⟨hv, fun h => by cases h⟩
      split
      · exact ⟨hv, fun _ => rfl⟩
      · cases h : numOf e.val with
        | none => exact ⟨hv, fun _ => rfl⟩
        | some n => exact ⟨Nat.le_trans (dec_size _ (numTo_lt r e n h hF)) (by omega), fun _ => rfl⟩
    · exact ⟨hv, fun _ => rfl⟩
  · exact ⟨hv, fun _ => rfl⟩
end Go.Proofs.YtepklobkppdliaaDoor.Md
end
