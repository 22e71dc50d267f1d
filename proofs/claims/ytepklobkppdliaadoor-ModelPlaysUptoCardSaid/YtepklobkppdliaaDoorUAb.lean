/- The model: what a request and an entry are; until when a value lives. The model: an answer of a kind alone; join. -/
import Derived.Test.YtepklobkppdliaaDoorUAa
import Derived.Test.YtepklobkppdliaaDoorUPr
import Derived.BigQuiet
import Derived.WalkMore
import Derived.Laws.Cover3
section
namespace Go.Proofs.YtepklobkppdliaaDoor.Md
open Go.RowKit Go.Proofs.YtepklobkppdliaaDoorW.PrintWords Go.Proofs.YtepklobkppdliaaDoorW.PrintLast Go.Proofs.YtepklobkppdliaaDoorW.PrintMore Go.Proofs.YtepklobkppdliaaDoor.Lib Go.Proofs.YtepklobkppdliaaDoor.Open
/-- Time brought into its limits. -/
def tm (n : Int) : Int := if n < 0 then 0 else if 1099511627776 < n then 1099511627776 else n
theorem tm_bd (n : Int) : 0 ≤ tm n ∧ tm n ≤ 1099511627776 := by
  unfold tm
  split
  · omega
  · split <;> omega
/-- Until when. -/
def dead (exp now : Int) : Int := if exp = 0 then 0 else if exp < 0 then -1 else if exp ≤ 2592000 then exp + tm now else tm exp
def live (d now : Int) : Bool := decide (d = 0 ∨ (0 < d ∧ now < d))
theorem time_calls (n : Int) (w : World) : Calls Tryd.prog 53 #[.int .i64 n] w fun e w' => e = .returned (.int .i64 (tm n)) ∧ w = w' := by
  unfold tm
  by_cases h1 : n < 0
  · have h2 : ¬ 1099511627776 < n := by omega
    have h3 : ¬ 0 < n := by omega
    rw [if_pos h1]
    go_enter Tryd.func53, Tryd.ntmps53
    go_wp2
    go_ret
    exact ⟨rfl, rfl⟩
  · rw [if_neg h1]
    by_cases h2 : 1099511627776 < n
    · rw [if_pos h2]
      go_enter Tryd.func53, Tryd.ntmps53
      go_wp2
      go_ret
      exact ⟨rfl, rfl⟩
    · rw [if_neg h2]
      by_cases h3 : 0 < n
      · go_enter Tryd.func53, Tryd.ntmps53
        go_wp2
        go_ret
        exact ⟨rfl, rfl⟩
      · obtain rfl : n = 0 := by omega
        go_enter Tryd.func53, Tryd.ntmps53
        go_wp2
        go_ret
        exact ⟨rfl, rfl⟩
theorem dead_calls (exp now : Int) (w : World) : Calls Tryd.prog 36 #[.int .i64 exp, .int .i64 now] w fun e w' => e = .returned (.int .i64 (dead exp now)) ∧ w = w' := by
  unfold dead
  by_cases h1 : exp = 0
  · subst h1
    rw [if_pos rfl]
    go_enter Tryd.func36, Tryd.ntmps36
    go_wp2
    go_ret
    exact ⟨rfl, rfl⟩
  · rw [if_neg h1]
    have e1 : (exp == 0) = false := beq_eq_false_iff_ne.2 h1
    by_cases h2 : exp < 0
    · rw [if_pos h2]
      clear h1
      go_enter Tryd.func36, Tryd.ntmps36
      go_wp2
      go_ret
      exact ⟨rfl, rfl⟩
    · rw [if_neg h2]
      have h0 : 0 ≤ exp := by omega
      by_cases h3 : exp ≤ 2592000
      · rw [if_pos h3]
        obtain ⟨t, ht⟩ : ∃ t, t = tm now := ⟨_, rfl⟩
        have hb := tm_bd now
        rw [← ht] at hb ⊢
        obtain ⟨hb1, hb2⟩ := hb
        have HT := Aside0.mk ht
        clear ht h1
        go_enter Tryd.func36, Tryd.ntmps36
        go_wp2_with (go_at_call 53; refine (time_calls _ _).mono ?_; rintro e w' ⟨rfl, rfl⟩; rw [← HT.out])
        go_ret
        exact ⟨rfl, rfl⟩
      · rw [if_neg h3]
        clear h1
        go_enter Tryd.func36, Tryd.ntmps36
        go_wp2_with (go_at_call 53; refine (time_calls _ _).mono ?_; rintro e w' ⟨rfl, rfl⟩)
        go_ret
        exact ⟨rfl, rfl⟩
end Go.Proofs.YtepklobkppdliaaDoor.Md
end
section
namespace Go.Proofs.YtepklobkppdliaaDoor.Md
open Go.RowKit Go.Proofs.YtepklobkppdliaaDoorW.PrintWords Go.Proofs.YtepklobkppdliaaDoorW.PrintLast Go.Proofs.YtepklobkppdliaaDoorW.PrintMore Go.Proofs.YtepklobkppdliaaDoor.Lib Go.Proofs.YtepklobkppdliaaDoor.Open
/-- An answer without values. -/
def ans (kind num : Int) (text : ByteArray) : Array Value := #[.int .i64 kind, .slice none 0 0, .bool false, .int .u64 num, .string text, .int .i64 0, .int .i64 0, .int .i64 0, .int .i64 0]
/-- An entry. -/
structure Ent where
  key : ByteArray
  fl : Int
  dl : Int
  val : ByteArray
  cas : Int
def Ent.c (e : Ent) : Array Value := #[.string e.key, .int .i64 e.fl, .int .i64 e.dl, .string e.val, .int .i64 e.cas]
/-- A request; its keys are apart. -/
structure Rq where
  verb : Int
  fl : Int
  exp : Int
  bytes : Int
  cas : Int
  delta : Int
  quiet : Bool
  data : ByteArray
def Rq.c (r : Rq) (kv : Value) : Array Value := #[.int .i64 r.verb, kv, .int .i64 r.fl, .int .i64 r.exp, .int .i64 r.bytes, .int .i64 r.cas, .int .u64 r.delta, .bool r.quiet, .string r.data]
theorem ans_one (k n : Int) (t : ByteArray) : (ans k n t).all (·.oneCell') = true := by simp [ans, Value.oneCell']
theorem ent_one (e : Ent) : e.c.all (·.oneCell') = true := by simp [Ent.c, Value.oneCell']
def A0 : Array Value := #[.int .i64 0, .slice none 0 0, .bool false, .int .u64 0, .string ⟨#[]⟩, .int .i64 0, .int .i64 0, .int .i64 0, .int .i64 0]
def E0 : Array Value := #[.string ⟨#[]⟩, .int .i64 0, .int .i64 0, .string ⟨#[]⟩, .int .i64 0]
theorem say_calls (k : Int) (w : World) : Calls Tryd.prog 37 #[.int .i64 k] w fun e w' => e = .returned (.agg (ans k 0 ⟨#[]⟩)) ∧ Below w.heap.size w w' := by
  go_enter Tryd.func37, Tryd.ntmps37
  go_wp2
  exact bodyPost_ret (results_cell_row rfl _ _ w.heap.size 32 _ (0, 0) _ rfl (blk_new w _) Tryd.underlying32 rfl (by kernel_rfl)) rfl ⟨rfl, below_alloc (Below.refl _ _) _⟩
theorem heap_at (w : World) (o : Obj) (i : Nat) : (w.alloc o).heap[i]? = if i = w.heap.size then some o else w.heap[i]? := by
  show (w.heap.push o)[i]? = _
  rw [Array.getElem?_push]
theorem four (w : World) (o1 o2 o3 o4 : Obj) : ((((w.alloc o1).alloc o2).alloc o3).alloc o4).heap[w.heap.size]? = some o1 ∧ ((((w.alloc o1).alloc o2).alloc o3).alloc o4).heap[w.heap.size + 1]? = some o2 ∧
    ((((w.alloc o1).alloc o2).alloc o3).alloc o4).heap[w.heap.size + 1 + 1]? = some o3 ∧ ((((w.alloc o1).alloc o2).alloc o3).alloc o4).heap[w.heap.size + 1 + 1 + 1]? = some o4 ∧ Below w.heap.size w ((((w.alloc o1).alloc o2).alloc o3).alloc o4) := by
  have s1 : (w.alloc o1).heap.size = w.heap.size + 1 := by simp
  have s2 : ((w.alloc o1).alloc o2).heap.size = w.heap.size + 1 + 1 := by simp
  have s3 : (((w.alloc o1).alloc o2).alloc o3).heap.size = w.heap.size + 1 + 1 + 1 := by simp
  refine ⟨?_, ?_, ?_, ?_, ?_⟩
  · rw [heap_at, heap_at, heap_at, heap_at, s1, s2, s3, if_neg (by omega), if_neg (by omega), if_neg (by omega), if_pos rfl]
  · rw [heap_at, heap_at, heap_at, s1, s2, s3, if_neg (by omega), if_neg (by omega), if_pos rfl]
  · rw [heap_at, heap_at, s2, s3, if_neg (by omega), if_pos rfl]
  · rw [heap_at, s3, if_pos rfl]
  exact below_step (below_step (below_step (below_alloc (Below.refl _ _) _) (below_alloc (Below.refl _ _) _)) (below_alloc (Below.refl _ _) _)) (below_alloc (Below.refl _ _) _)
def tooLarge : ByteArray := ⟨#[111, 98, 106, 101, 99, 116, 32, 116, 111, 111, 32, 108, 97, 114, 103, 101, 32, 102, 111, 114, 32, 99, 97, 99, 104, 101]⟩
set_option maxHeartbeats 4000000 in
set_option maxRecDepth 100000 in
theorem join_long (r : Rq) (kv : Value) (e : Ent) (ver : Int) (w : World) (hd : r.data.size ≤ 140737488355328) (hv : e.val.size ≤ 140737488355328) (h : 1048576 < e.val.size + r.data.size) :
    Calls Tryd.prog 38 #[.agg (r.c kv), .agg e.c, .int .i64 ver] w fun e_ w' => e_ = .returned (.tuple #[.agg (ans 14 0 tooLarge), .agg e.c, .bool false]) ∧ Below w.heap.size w w' := by
  simp only [Rq.c, Ent.c]
  have h1 : (1048576 : Int) < (e.val.size : Int) + (r.data.size : Int) := by omega
  have h2 : (e.val.size : Int) ≤ 140737488355328 := by omega
  have h3 : (r.data.size : Int) ≤ 140737488355328 := by omega
  clear h hd hv
  go_enter Tryd.func38, Tryd.ntmps38
  go_wp2
  obtain ⟨W, hW⟩ : ∃ W, W = (((w.alloc (.cells (r.c kv) 27)).alloc (.cells e.c 38)).alloc (.cells A0 32)).alloc (.cells E0 38) := ⟨_, rfl⟩
  obtain ⟨b1, b2, b3, b4, hB⟩ := four w (.cells (r.c kv) 27) (.cells e.c 38) (.cells A0 32) (.cells E0 38)
  change Code.wp _ _ _ _ ((((w.alloc (.cells (r.c kv) 27)).alloc (.cells e.c 38)).alloc (.cells A0 32)).alloc (.cells E0 38))
  rw [← hW] at b1 b2 b3 b4 hB ⊢
  refine Ev.region_ev (Ev.Two W (w.heap.size + 1 + 1) (w.heap.size + 1 + 1 + 1) 32 38 A0 (ans 14 0 tooLarge) E0 e.c 2 3) (by kernel_rfl) (by kernel_rfl) (Ev.two_start b3 b4) ?_
  refine Ev.ev_step (v := .agg (ans 14 0 tooLarge)) rfl rfl (Ev.two_pure (by decide) (by decide) (fun _ => by first | (go_simp; done) | (go_simp; rfl))) ?_
  refine Ev.ev_step (v := .agg e.c) rfl rfl (Ev.two_load (by decide) (by decide) 38 (.tmp 4) rfl (w.heap.size + 1) rfl _ _ _ b2 (by omega) (by omega) Tryd.underlying38 rfl (by kernel_rfl)) ?_
  refine Ev.ev_step (v := undef) rfl rfl (Ev.two_store1 (by decide) (by omega) 32 (.tmp 6) (.tmp 17) rfl rfl rfl rfl (by kernel_rfl) (ans_one _ _ _)) ?_
  refine Ev.ev_step (v := undef) rfl rfl (Ev.two_store2 (by decide) (by omega) 38 (.tmp 7) (.tmp 18) rfl rfl rfl rfl (by kernel_rfl) (ent_one _)) ?_
  refine Ev.ev_step (v := .bool false) rfl rfl (Ev.two_pure (by decide) (by decide) (fun _ => by rfl)) ?_
  refine Ev.ev_nil (fun w_e hw_e => ?_)
  obtain ⟨hM_e, hA_e, hX_e⟩ := Ev.two_end hw_e (by decide) (by decide)
  clear hw_e

  go_wp2
  refine bodyPost_ret (Ev.results_c2 rfl rfl hA_e Tryd.underlying32 rfl (by kernel_rfl) rfl hX_e Tryd.underlying38 rfl (by kernel_rfl) rfl) rfl ⟨rfl, ?_⟩
  exact Mod.after hB hB.size hM_e (fun k hk => by omega)

set_option maxHeartbeats 4000000 in
set_option maxRecDepth 100000 in
theorem join_app (r : Rq) (kv : Value) (e : Ent) (ver : Int) (w : World) (h : e.val.size + r.data.size ≤ 1048576) (hr : r.verb = 6) :
    Calls Tryd.prog 38 #[.agg (r.c kv), .agg e.c, .int .i64 ver] w fun e_ w' => e_ = .returned (.tuple #[.agg (ans 2 0 ⟨#[]⟩), .agg (Ent.c { e with val := e.val ++ r.data, cas := ver }), .bool true]) ∧ Below w.heap.size w w' := by
  have h1 : (e.val.size : Int) + (r.data.size : Int) ≤ 1048576 := by omega
  have h2 : (e.val.size : Int) ≤ 140737488355328 := by omega
  have h3 : (r.data.size : Int) ≤ 140737488355328 := by omega
  clear h
  have hr2 : (r.verb == 6) = true := by simp [hr]
  clear hr
  simp only [Rq.c, Ent.c]
  go_enter Tryd.func38, Tryd.ntmps38
  go_wp2
  obtain ⟨W, hW⟩ : ∃ W, W = (((w.alloc (.cells (r.c kv) 27)).alloc (.cells (Ent.c { e with val := e.val ++ r.data, cas := ver }) 38)).alloc (.cells A0 32)).alloc (.cells E0 38) := ⟨_, rfl⟩
  obtain ⟨b1, b2, b3, b4, hB⟩ := four w (.cells (r.c kv) 27) (.cells (Ent.c { e with val := e.val ++ r.data, cas := ver }) 38) (.cells A0 32) (.cells E0 38)
  change Code.wp _ _ _ _ ((((w.alloc (.cells (r.c kv) 27)).alloc (.cells (Ent.c { e with val := e.val ++ r.data, cas := ver }) 38)).alloc (.cells A0 32)).alloc (.cells E0 38))
  rw [← hW] at b1 b2 b3 b4 hB ⊢
  clear hW
  refine Ev.region_ev (Ev.Two W (w.heap.size + 1 + 1) (w.heap.size + 1 + 1 + 1) 32 38 A0 (ans 2 0 ⟨#[]⟩) E0 (Ent.c { e with val := e.val ++ r.data, cas := ver }) 2 3) (by kernel_rfl) (by kernel_rfl) (Ev.two_start b3 b4) ?_
  refine Ev.ev_step (v := .agg (ans 2 0 ⟨#[]⟩)) rfl rfl (Ev.two_pure (by decide) (by decide) (fun _ => by first | (go_simp; done) | (go_simp; rfl))) ?_
  refine Ev.ev_step (v := .agg (Ent.c { e with val := e.val ++ r.data, cas := ver })) rfl rfl (Ev.two_load (by decide) (by decide) 38 (.tmp 4) rfl (w.heap.size + 1) rfl _ _ _ b2 (by omega) (by omega) Tryd.underlying38 rfl (by kernel_rfl)) ?_
  refine Ev.ev_step (v := undef) rfl rfl (Ev.two_store1 (by decide) (by omega) 32 (.tmp 6) (.tmp 36) rfl rfl rfl rfl (by kernel_rfl) (ans_one _ _ _)) ?_
  refine Ev.ev_step (v := undef) rfl rfl (Ev.two_store2 (by decide) (by omega) 38 (.tmp 7) (.tmp 37) rfl rfl rfl rfl (by kernel_rfl) (ent_one _)) ?_
  refine Ev.ev_step (v := .bool true) rfl rfl (Ev.two_pure (by decide) (by decide) (fun _ => by rfl)) ?_
  refine Ev.ev_nil (fun w_e hw_e => ?_)
  obtain ⟨hM_e, hA_e, hX_e⟩ := Ev.two_end hw_e (by decide) (by decide)
  clear hw_e
  go_wp2
  refine bodyPost_ret (Ev.results_c2 rfl rfl hA_e Tryd.underlying32 rfl (by kernel_rfl) rfl hX_e Tryd.underlying38 rfl (by kernel_rfl) rfl) rfl ⟨rfl, ?_⟩
  exact Mod.after hB hB.size hM_e (fun k hk => by omega)

set_option maxHeartbeats 4000000 in
set_option maxRecDepth 100000 in
theorem join_pre (r : Rq) (kv : Value) (e : Ent) (ver : Int) (w : World) (h : e.val.size + r.data.size ≤ 1048576) (hr : r.verb ≠ 6) :
    Calls Tryd.prog 38 #[.agg (r.c kv), .agg e.c, .int .i64 ver] w fun e_ w' => e_ = .returned (.tuple #[.agg (ans 2 0 ⟨#[]⟩), .agg (Ent.c { e with val := r.data ++ e.val, cas := ver }), .bool true]) ∧ Below w.heap.size w w' := by
  have h1 : (e.val.size : Int) + (r.data.size : Int) ≤ 1048576 := by omega
  have h2 : (e.val.size : Int) ≤ 140737488355328 := by omega
  have h3 : (r.data.size : Int) ≤ 140737488355328 := by omega
  clear h
  have hr2 : (r.verb == 6) = false := by simp [hr]
  clear hr
  simp only [Rq.c, Ent.c]
  go_enter Tryd.func38, Tryd.ntmps38
  go_wp2
  obtain ⟨W, hW⟩ : ∃ W, W = (((w.alloc (.cells (r.c kv) 27)).alloc (.cells (Ent.c { e with val := r.data ++ e.val, cas := ver }) 38)).alloc (.cells A0 32)).alloc (.cells E0 38) := ⟨_, rfl⟩
  obtain ⟨b1, b2, b3, b4, hB⟩ := four w (.cells (r.c kv) 27) (.cells (Ent.c { e with val := r.data ++ e.val, cas := ver }) 38) (.cells A0 32) (.cells E0 38)
  change Code.wp _ _ _ _ ((((w.alloc (.cells (r.c kv) 27)).alloc (.cells (Ent.c { e with val := r.data ++ e.val, cas := ver }) 38)).alloc (.cells A0 32)).alloc (.cells E0 38))
  rw [← hW] at b1 b2 b3 b4 hB ⊢
  clear hW
  refine Ev.region_ev (Ev.Two W (w.heap.size + 1 + 1) (w.heap.size + 1 + 1 + 1) 32 38 A0 (ans 2 0 ⟨#[]⟩) E0 (Ent.c { e with val := r.data ++ e.val, cas := ver }) 2 3) (by kernel_rfl) (by kernel_rfl) (Ev.two_start b3 b4) ?_
  refine Ev.ev_step (v := .agg (ans 2 0 ⟨#[]⟩)) rfl rfl (Ev.two_pure (by decide) (by decide) (fun _ => by first | (go_simp; done) | (go_simp; rfl))) ?_
  refine Ev.ev_step (v := .agg (Ent.c { e with val := r.data ++ e.val, cas := ver })) rfl rfl (Ev.two_load (by decide) (by decide) 38 (.tmp 4) rfl (w.heap.size + 1) rfl _ _ _ b2 (by omega) (by omega) Tryd.underlying38 rfl (by kernel_rfl)) ?_
  refine Ev.ev_step (v := undef) rfl rfl (Ev.two_store1 (by decide) (by omega) 32 (.tmp 6) (.tmp 36) rfl rfl rfl rfl (by kernel_rfl) (ans_one _ _ _)) ?_
  refine Ev.ev_step (v := undef) rfl rfl (Ev.two_store2 (by decide) (by omega) 38 (.tmp 7) (.tmp 37) rfl rfl rfl rfl (by kernel_rfl) (ent_one _)) ?_
  refine Ev.ev_step (v := .bool true) rfl rfl (Ev.two_pure (by decide) (by decide) (fun _ => by rfl)) ?_
  refine Ev.ev_nil (fun w_e hw_e => ?_)
  obtain ⟨hM_e, hA_e, hX_e⟩ := Ev.two_end hw_e (by decide) (by decide)
  clear hw_e
  go_wp2
  refine bodyPost_ret (Ev.results_c2 rfl rfl hA_e Tryd.underlying32 rfl (by kernel_rfl) rfl hX_e Tryd.underlying38 rfl (by kernel_rfl) rfl) rfl ⟨rfl, ?_⟩
  exact Mod.after hB hB.size hM_e (fun k hk => by omega)
end Go.Proofs.YtepklobkppdliaaDoor.Md
end
