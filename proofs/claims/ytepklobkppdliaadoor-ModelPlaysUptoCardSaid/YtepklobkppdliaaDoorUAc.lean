/- The model: a number written in digits (FormatUint). The model: count. -/
import Derived.Test.YtepklobkppdliaaDoorUMd3
import Derived.Test.YtepklobkppdliaaDoorUShelf
import Derived.Test.YtepklobkppdliaaDoorRows
import Derived.Lib.SmallJoins
import Derived.Lib.ItoaMem
section
namespace Go.Proofs.YtepklobkppdliaaDoor.Md
open Go.RowKit Go.Proofs.YtepklobkppdliaaDoorW.PrintWords Go.Proofs.YtepklobkppdliaaDoorW.PrintLast Go.Proofs.YtepklobkppdliaaDoorW.PrintMore Go.Proofs.YtepklobkppdliaaDoor.Lib Go.Proofs.YtepklobkppdliaaDoor.Open
/-- The table's name, as the given rows have it. -/
def powName : String := Rows.modelRunsRow.named.headD ""
/-- The library's table of the powers of ten is as its text lays it. -/
def Pow (w : World) : Prop := Lib.TabIs Tryd.prog w powName .u64 Lib.pow10Tab
theorem powGlobal : Tryd.prog.globalNamed powName = some 0 := by kernel_rfl
theorem Pow.below {w w' : World} (h : Pow w) (hb : Below w.heap.size w w') : Pow w' := Joins.tab_stays powGlobal h hb (Nat.le_refl _)
theorem Pow.alloc {w : World} (h : Pow w) (o : Obj) : Pow (w.alloc o) := Lib.tabIs_alloc h o
theorem digits_calls (u : Nat) (h1 : 1 ≤ u) (h2 : u < 18446744073709551616) (w : World) (h : Pow w) :
    Calls Tryd.prog 58 #[.int .u64 u] w fun e w' => e = .returned (.int .i64 (Lib.nDigits u)) ∧ w' = w := Any.internal_strconv_numDigits Tryd.laysM284 u h1 h2 w h
/-- A number's digits. -/
def dec (u : Nat) : ByteArray := ⟨(Lib.decDigits u).toArray⟩
theorem holds_zero0 (w : World) (T : TypeId) (nd : Nat) (hs : nd ≤ 24) : Go.Sort.Holds (fun (b : UInt8) => Value.int .u8 (b.toNat : Int)) (w.alloc (.cells Lib.zeros24 T)) w.heap.size 0 (Array.replicate nd (0 : UInt8)) := fun j hj => by
  have hj' : j < nd := by simpa using hj
  refine ⟨?_, World.frozen?_alloc_new _ _ _ _⟩
  rw [World.cell?_alloc_new, Lib.zeros24_at _ (by omega), getElem!_pos _ j hj]
  simp
open Go.Sort in
theorem below_put (w : World) (o : Obj) (dk : Array UInt8) (k : Nat) : Below w.heap.size w ((putRow (fun (b : UInt8) => Value.int .u8 (b.toNat : Int)) (w.alloc o) w.heap.size 0 dk).drewN k) := by
  obtain ⟨os, _, e⟩ := putRow_grow_new (fun (b : UInt8) => Value.int .u8 (b.toNat : Int)) w #[o] w.heap.size 0 dk (Nat.le_refl _)
  rw [alloc_eq_grow, e]
  refine ⟨rfl, rfl, rfl, by simp [grow, World.drewN], fun i hi => ?_⟩
  show (w.heap ++ os)[i]? = w.heap[i]?
  rw [Array.getElem?_append_left hi]
set_option maxHeartbeats 4000000 in
set_option maxRecDepth 100000 in
open Go.Sort in
theorem fmt_in (u : Nat) (hu : u < 18446744073709551616) (w : World) (ht : Pow w) :
    Calls Tryd.prog 44 #[.int .u64 u, .int .i64 10] w fun e w' => e = .returned (.string (dec u)) ∧ Below w.heap.size w w' := by
  unfold dec
  by_cases hs : u < 100
  · have h1 : ((u : Nat) : Int) < 100 := by omega
    go_enter Tryd.func44, Tryd.ntmps44
    go_wp2_with (go_at_call 57; refine (Tryd.internal_strconv_small u hs _).mono ?_; rintro e w' ⟨rfl, rfl⟩)
    go_ret
    exact ⟨rfl, Below.refl _ _⟩
  · have h1 : ¬ ((u : Nat) : Int) < 100 := by omega
    have hu1 : 1 ≤ u := by omega
    have hnd20 : Lib.nDigits u ≤ 20 := by have := Lib.numDigits_eq u hu1 hu; split at this <;> omega
    obtain ⟨nd, hnd⟩ : ∃ nd, nd = Lib.nDigits u := ⟨_, rfl⟩
    have hal : Tryd.prog.arrayLen 117 = 24 := by simp [Program.arrayLen, Tryd.underlying117]
    have hsl1 : ∀ W, (Instr.sliceAt 117 (.pointer (some ⟨w.heap.size, 0, none⟩)) none (some (.int .i64 (nd : Int))) none).run Tryd.prog W = .ok (.slice (some ⟨w.heap.size, 0, none⟩) nd 24) W := fun W => by
      rw [run_sliceAt_array_h W 117 ⟨w.heap.size, 0, none⟩ (by simp [Program.arrayLen, Program.elem, Tryd.underlying117]) .i64 (nd : Int) (by omega) (by rw [hal]; omega)]
      go_simp
    have hH0 := holds_zero0 w 117 (Lib.nDigits u) (by omega)
    have hfmt := Tryd.internal_strconv_formatBase10 w.heap.size 0 24 u (Array.replicate (Lib.nDigits u) 0) (w.alloc (.cells Lib.zeros24 117)) hH0 (by rw [Array.size_replicate]; exact Lib.lt_pow_nDigits u) hu (by rw [Array.size_replicate]; omega)
    rw [Array.size_replicate, ← hnd] at hfmt
    have HH0 := Aside0.mk hH0
    have HN := Aside0.mk hnd
    clear hH0 hal hnd hnd20
    go_enter Tryd.func44, Tryd.ntmps44
    go_wp2_with (go_at_call 58; refine (digits_calls u hu1 hu _ (Pow.alloc ht _)).mono ?_; rintro e w' ⟨rfl, rfl⟩; rw [← HN.out])
    go_at_call 59
    refine hfmt.mono ?_
    rintro e w' ⟨rfl, k, v', dk, rfl, hF⟩
    have hcv : (convert 120 9 (.slice (some ⟨w.heap.size, 0, none⟩) nd 24)).run Tryd.prog ((putRow (fun (b : UInt8) => Value.int .u8 (b.toNat : Int)) (w.alloc (.cells Lib.zeros24 117)) w.heap.size 0 dk).drewN k) = .ok (.string ⟨(Lib.decDigits u).toArray⟩) ((putRow (fun (b : UInt8) => Value.int .u8 (b.toNat : Int)) (w.alloc (.cells Lib.zeros24 117)) w.heap.size 0 dk).drewN k) := by
      have hF' := hF
      rw [HN.out] at hF'
      have h := run_convert_bytes_back (P := Tryd.prog) ((putRow (fun (b : UInt8) => Value.int .u8 (b.toNat : Int)) (w.alloc (.cells Lib.zeros24 117)) w.heap.size 0 dk).drewN k) 120 9 5 ⟨w.heap.size, 0, none⟩ 24 (Lib.decDigits u) Tryd.underlying120 Tryd.underlying5 Tryd.underlying9 (fun j hj => by
        rw [Lib.row_is_numeral hF' j hj, Lib.add_plain, World.cell?_drewN]
        exact cell?_putRow (fun (b : UInt8) => Value.int .u8 (b.toNat : Int)) _ w.heap.size 0 _ dk HH0.out (by rw [hF'.size, Array.size_replicate]) j (by rw [hF'.size]; rw [Lib.decDigits_length] at hj; exact hj))
      rw [Lib.decDigits_length, ← HN.out] at h
      exact h
    have HB := Aside0.mk (below_put w (.cells Lib.zeros24 117) dk k)
    have HT := Aside0.mk ht
    clear hF hfmt ht
    go_wp2
    go_ret
    exact ⟨rfl, HB.out⟩
theorem fmt_calls (u : Nat) (hu : u < 18446744073709551616) (w : World) (ht : Pow w) :
    Calls Tryd.prog 20 #[.int .u64 u, .int .i64 10] w fun e w' => e = .returned (.string (dec u)) ∧ Below w.heap.size w w' := by
  have HT := Aside0.mk ht
  clear ht
  go_enter Tryd.func20, Tryd.ntmps20
  go_wp2_with (go_at_call 44; refine (fmt_in u hu _ HT.out).mono ?_; rintro e w' ⟨rfl, hb⟩; have HB := Aside0.mk hb; clear hb)
  go_ret
  exact ⟨rfl, HB.out⟩
end Go.Proofs.YtepklobkppdliaaDoor.Md
end
section
namespace Go.Proofs.YtepklobkppdliaaDoor.Md
open Go.RowKit Go.Proofs.YtepklobkppdliaaDoorW.PrintWords Go.Proofs.YtepklobkppdliaaDoorW.PrintLast Go.Proofs.YtepklobkppdliaaDoorW.PrintMore Go.Proofs.YtepklobkppdliaaDoor.Lib Go.Proofs.YtepklobkppdliaaDoor.Open
def badNum : ByteArray := ⟨#[99, 97, 110, 110, 111, 116, 32, 105, 110, 99, 114, 101, 109, 101, 110, 116, 32, 111, 114, 32, 100, 101, 99, 114, 101, 109, 101, 110, 116, 32, 110, 111, 110, 45, 110, 117, 109, 101, 114, 105, 99, 32, 118, 97, 108, 117, 101]⟩
set_option maxHeartbeats 4000000 in
set_option maxRecDepth 100000 in
theorem count_bad (r : Rq) (kv : Value) (e : Ent) (ver : Int) (w : World) (h : numOf e.val = none) :
    Calls Tryd.prog 39 #[.agg (r.c kv), .agg e.c, .int .i64 ver] w fun e_ w' => e_ = .returned (.tuple #[.agg (ans 13 0 badNum), .agg e.c, .bool false]) ∧ Below w.heap.size w w' := by
  have HN := Aside0.mk h
  clear h
  simp only [Rq.c, Ent.c]
  go_enter Tryd.func39, Tryd.ntmps39
  go_wp2_with (go_at_call 54; refine (number_calls _ _).mono ?_; rintro e_1 w_1 ⟨rfl, hd⟩; obtain ⟨⟨nq, rfl⟩⟩ := hd; rw [HN.out]; simp only [nout]; clear HN)
  obtain ⟨V, hV⟩ : ∃ V, V = (((w.alloc (.cells (r.c kv) 27)).alloc (.cells e.c 38)).alloc (.cells A0 32)).alloc (.cells E0 38) := ⟨_, rfl⟩
  obtain ⟨b1, b2, b3, b4, hB⟩ := four w (.cells (r.c kv) 27) (.cells e.c 38) (.cells A0 32) (.cells E0 38)
  change Code.wp _ _ _ _ (((((w.alloc (.cells (r.c kv) 27)).alloc (.cells e.c 38)).alloc (.cells A0 32)).alloc (.cells E0 38)).drewN nq)
  rw [← hV] at b1 b2 b3 b4 hB ⊢
  clear hV
  obtain ⟨W, hW⟩ : ∃ W, W = V.drewN nq := ⟨_, rfl⟩
  have b2w : W.heap[w.heap.size + 1]? = some (.cells e.c 38 (0, 0)) := by rw [hW]; exact b2
  have b3w : W.heap[w.heap.size + 1 + 1]? = some (.cells A0 32 (0, 0)) := by rw [hW]; exact b3
  have b4w : W.heap[w.heap.size + 1 + 1 + 1]? = some (.cells E0 38 (0, 0)) := by rw [hW]; exact b4
  have hBw : Below w.heap.size w W := by rw [hW]; exact pw_below_drewN hB nq
  rw [← hW]
  clear hW hB b1 b2 b3 b4
  refine Ev.region_ev (Ev.Two W (w.heap.size + 1 + 1) (w.heap.size + 1 + 1 + 1) 32 38 A0 (ans 13 0 badNum) E0 e.c 2 3) (by kernel_rfl) (by kernel_rfl) (Ev.two_start b3w b4w) ?_
  refine Ev.ev_step (v := .agg (ans 13 0 badNum)) rfl rfl (Ev.two_pure (by decide) (by decide) (fun _ => by first | (go_simp; done) | (go_simp; rfl))) ?_
  refine Ev.ev_step (v := .agg e.c) rfl rfl (Ev.two_load (by decide) (by decide) 38 (.tmp 4) rfl (w.heap.size + 1) rfl _ _ _ b2w (by omega) (by omega) Tryd.underlying38 rfl (by kernel_rfl)) ?_
  refine Ev.ev_step (v := undef) rfl rfl (Ev.two_store1 (by decide) (by omega) 32 (.tmp 6) (.tmp 19) rfl rfl rfl rfl (by kernel_rfl) (ans_one _ _ _)) ?_
  refine Ev.ev_step (v := undef) rfl rfl (Ev.two_store2 (by decide) (by omega) 38 (.tmp 7) (.tmp 20) rfl rfl rfl rfl (by kernel_rfl) (ent_one _)) ?_
  refine Ev.ev_step (v := .bool false) rfl rfl (Ev.two_pure (by decide) (by decide) (fun _ => by rfl)) ?_
  refine Ev.ev_nil (fun w_e hw_e => ?_)
  obtain ⟨hM_e, hA_e, hX_e⟩ := Ev.two_end hw_e (by decide) (by decide)
  clear hw_e
  go_wp2
  refine bodyPost_ret (Ev.results_c2 rfl rfl hA_e Tryd.underlying32 rfl (by kernel_rfl) rfl hX_e Tryd.underlying38 rfl (by kernel_rfl) rfl) rfl ⟨rfl, ?_⟩
  exact Mod.after hBw hBw.size hM_e (fun k hk => by omega)

set_option maxHeartbeats 4000000 in
set_option maxRecDepth 100000 in
theorem count_up (r : Rq) (kv : Value) (e : Ent) (ver n : Int) (m : Nat) (w : World) (h : numOf e.val = some n) (hr : r.verb = 10)  (hm : IntKind.u64.wrap (n + r.delta) = (m : Int)) (ht : Pow w) :
    Calls Tryd.prog 39 #[.agg (r.c kv), .agg e.c, .int .i64 ver] w fun e_ w' => e_ = .returned (.tuple #[.agg (ans 8 (m : Int) ⟨#[]⟩), .agg (Ent.c { e with val := dec m, cas := ver }), .bool true]) ∧ Below w.heap.size w w' := by
  obtain ⟨n0, n1⟩ := numOf_bd h
  have HN := Aside0.mk h
  have HT := Aside0.mk ht
  have hm0 : 0 ≤ IntKind.u64.wrap (n + r.delta) ∧ IntKind.u64.wrap (n + r.delta) < 18446744073709551616 := by rw [IntKind.wrap_u64]; omega
  have HM := Aside0.mk (show m < 18446744073709551616 by omega)
  clear hm0
  have hr2 : (r.verb == 10) = true := by simp [hr]
  clear hr h ht
  simp only [Rq.c, Ent.c]
  go_enter Tryd.func39, Tryd.ntmps39
  go_wp2_with (go_at_call 54; refine (number_calls _ _).mono ?_; rintro e_1 w_1 ⟨rfl, hd⟩; obtain ⟨⟨nq, rfl⟩⟩ := hd; rw [HN.out]; simp only [nout]; clear HN)
  go_at_call 20
  obtain ⟨V, hV⟩ : ∃ V, V = (((w.alloc (.cells (r.c kv) 27)).alloc (.cells e.c 38)).alloc (.cells A0 32)).alloc (.cells E0 38) := ⟨_, rfl⟩
  obtain ⟨b1, b2, b3, b4, hB⟩ := four w (.cells (r.c kv) 27) (.cells e.c 38) (.cells A0 32) (.cells E0 38)
  change Calls _ _ _ (((((w.alloc (.cells (r.c kv) 27)).alloc (.cells e.c 38)).alloc (.cells A0 32)).alloc (.cells E0 38)).drewN nq) _
  rw [← hV] at b1 b2 b3 b4 hB ⊢
  clear hV
  refine (fmt_calls m HM.out _ (HT.out.below (pw_below_drewN hB nq))).mono ?_
  rintro e_1 w_1 ⟨rfl, hb⟩
  have hB1 := Aside0.mk ((pw_below_drewN hB nq).trans (hb.mono hB.size))
  have B2 := Aside0.mk ((hb.block _ (blk_lt b2)).trans b2)
  have B3 := Aside0.mk ((hb.block _ (blk_lt b3)).trans b3)
  have B4 := Aside0.mk ((hb.block _ (blk_lt b4)).trans b4)
  have c3 : w_1.cell? ⟨w.heap.size + 1, 3, none⟩ = some (.string e.val) := blk_cell B2.out 3
  have c4 : w_1.cell? ⟨w.heap.size + 1, 4, none⟩ = some (.int .i64 e.cas) := blk_cell B2.out 4
  have f3 : w_1.frozen? ⟨w.heap.size + 1, 3, none⟩ = false := blk_frozen B2.out 3
  have f4 : w_1.frozen? ⟨w.heap.size + 1, 4, none⟩ = false := blk_frozen B2.out 4
  clear b1 b2 b3 b4 hB hb HT HM
  go_wp2
  obtain ⟨W, hW⟩ : ∃ W, W = (w_1.setCell ⟨w.heap.size + 1, 3, none⟩ (.string (dec m))).setCell ⟨w.heap.size + 1, 4, none⟩ (.int .i64 ver) := ⟨_, rfl⟩
  have hM : Mod (fun k => k = w.heap.size + 1) w_1 W := by rw [hW]; exact Mod.setCell (p := ⟨w.heap.size + 1, 4, none⟩) (Mod.setCell (p := ⟨w.heap.size + 1, 3, none⟩) (Mod.refl (fun k => k = w.heap.size + 1) _) (.inl rfl) _) (.inl rfl) _
  have b2w : W.heap[w.heap.size + 1]? = some (.cells (Ent.c { e with val := dec m, cas := ver }) 38 (0, 0)) := by rw [hW]; exact blk_put (blk_put B2.out 3 _ rfl) 4 _ rfl
  have b3w : W.heap[w.heap.size + 1 + 1]? = some (.cells A0 32 (0, 0)) := hM.blk B3.out (by omega)
  have b4w : W.heap[w.heap.size + 1 + 1 + 1]? = some (.cells E0 38 (0, 0)) := hM.blk B4.out (by omega)
  have hBw : Below w.heap.size w W := hM.after hB1.out hB1.out.size (fun k hk => by omega)
  rw [← hW]
  clear hW hM c3 c4 f3 f4
  refine Ev.region_ev (Ev.Two W (w.heap.size + 1 + 1) (w.heap.size + 1 + 1 + 1) 32 38 A0 (ans 8 (m : Int) ⟨#[]⟩) E0 (Ent.c { e with val := dec m, cas := ver }) 3 4) (by kernel_rfl) (by kernel_rfl) (Ev.two_start b3w b4w) ?_
  refine Ev.ev_step (v := .int .u64 (m : Int)) rfl rfl (Ev.two_pure (by decide) (by decide) (fun _ => by rfl)) ?_
  refine Ev.ev_step (v := .agg (ans 8 (m : Int) ⟨#[]⟩)) rfl rfl (Ev.two_pure (by decide) (by decide) (fun _ => by first | (go_simp; done) | (go_simp; rfl))) ?_
  refine Ev.ev_step (v := .agg (Ent.c { e with val := dec m, cas := ver })) rfl rfl (Ev.two_load (by decide) (by decide) 38 (.tmp 4) rfl (w.heap.size + 1) rfl _ _ _ b2w (by omega) (by omega) Tryd.underlying38 rfl (by kernel_rfl)) ?_
  refine Ev.ev_step (v := undef) rfl rfl (Ev.two_store1 (by decide) (by omega) 32 (.tmp 6) (.tmp 40) rfl rfl rfl rfl (by kernel_rfl) (ans_one _ _ _)) ?_
  refine Ev.ev_step (v := undef) rfl rfl (Ev.two_store2 (by decide) (by omega) 38 (.tmp 7) (.tmp 41) rfl rfl rfl rfl (by kernel_rfl) (ent_one _)) ?_
  refine Ev.ev_step (v := .bool true) rfl rfl (Ev.two_pure (by decide) (by decide) (fun _ => by rfl)) ?_
  refine Ev.ev_nil (fun w_e hw_e => ?_)
  obtain ⟨hM_e, hA_e, hX_e⟩ := Ev.two_end hw_e (by decide) (by decide)
  clear hw_e
  go_wp2
  refine bodyPost_ret (Ev.results_c2 rfl rfl hA_e Tryd.underlying32 rfl (by kernel_rfl) rfl hX_e Tryd.underlying38 rfl (by kernel_rfl) rfl) rfl ⟨rfl, ?_⟩
  exact Mod.after hBw hBw.size hM_e (fun k hk => by omega)

set_option maxHeartbeats 4000000 in
set_option maxRecDepth 100000 in
theorem count_down (r : Rq) (kv : Value) (e : Ent) (ver n : Int) (m : Nat) (w : World) (h : numOf e.val = some n) (hr : r.verb ≠ 10) (h0 : 0 ≤ r.delta) (hm : n - min n r.delta = (m : Int)) (ht : Pow w) :
    Calls Tryd.prog 39 #[.agg (r.c kv), .agg e.c, .int .i64 ver] w fun e_ w' => e_ = .returned (.tuple #[.agg (ans 8 (m : Int) ⟨#[]⟩), .agg (Ent.c { e with val := dec m, cas := ver }), .bool true]) ∧ Below w.heap.size w w' := by
  obtain ⟨n0, n1⟩ := numOf_bd h
  have HN := Aside0.mk h
  have HT := Aside0.mk ht
  have HM := Aside0.mk (show m < 18446744073709551616 by omega)
  have hr2 : (r.verb == 10) = false := by simp [hr]
  clear hr h ht
  simp only [Rq.c, Ent.c]
  go_enter Tryd.func39, Tryd.ntmps39
  go_wp2_with (go_at_call 54; refine (number_calls _ _).mono ?_; rintro e_1 w_1 ⟨rfl, hd⟩; obtain ⟨⟨nq, rfl⟩⟩ := hd; rw [HN.out]; simp only [nout]; clear HN)
  go_at_call 20
  obtain ⟨V, hV⟩ : ∃ V, V = (((w.alloc (.cells (r.c kv) 27)).alloc (.cells e.c 38)).alloc (.cells A0 32)).alloc (.cells E0 38) := ⟨_, rfl⟩
  obtain ⟨b1, b2, b3, b4, hB⟩ := four w (.cells (r.c kv) 27) (.cells e.c 38) (.cells A0 32) (.cells E0 38)
  change Calls _ _ _ (((((w.alloc (.cells (r.c kv) 27)).alloc (.cells e.c 38)).alloc (.cells A0 32)).alloc (.cells E0 38)).drewN nq) _
  rw [← hV] at b1 b2 b3 b4 hB ⊢
  clear hV
  refine (fmt_calls m HM.out _ (HT.out.below (pw_below_drewN hB nq))).mono ?_
  rintro e_1 w_1 ⟨rfl, hb⟩
  have hB1 := Aside0.mk ((pw_below_drewN hB nq).trans (hb.mono hB.size))
  have B2 := Aside0.mk ((hb.block _ (blk_lt b2)).trans b2)
  have B3 := Aside0.mk ((hb.block _ (blk_lt b3)).trans b3)
  have B4 := Aside0.mk ((hb.block _ (blk_lt b4)).trans b4)
  have c3 : w_1.cell? ⟨w.heap.size + 1, 3, none⟩ = some (.string e.val) := blk_cell B2.out 3
  have c4 : w_1.cell? ⟨w.heap.size + 1, 4, none⟩ = some (.int .i64 e.cas) := blk_cell B2.out 4
  have f3 : w_1.frozen? ⟨w.heap.size + 1, 3, none⟩ = false := blk_frozen B2.out 3
  have f4 : w_1.frozen? ⟨w.heap.size + 1, 4, none⟩ = false := blk_frozen B2.out 4
  clear b1 b2 b3 b4 hB hb HT HM
  go_wp2
  obtain ⟨W, hW⟩ : ∃ W, W = (w_1.setCell ⟨w.heap.size + 1, 3, none⟩ (.string (dec m))).setCell ⟨w.heap.size + 1, 4, none⟩ (.int .i64 ver) := ⟨_, rfl⟩
  have hM : Mod (fun k => k = w.heap.size + 1) w_1 W := by rw [hW]; exact Mod.setCell (p := ⟨w.heap.size + 1, 4, none⟩) (Mod.setCell (p := ⟨w.heap.size + 1, 3, none⟩) (Mod.refl (fun k => k = w.heap.size + 1) _) (.inl rfl) _) (.inl rfl) _
  have b2w : W.heap[w.heap.size + 1]? = some (.cells (Ent.c { e with val := dec m, cas := ver }) 38 (0, 0)) := by rw [hW]; exact blk_put (blk_put B2.out 3 _ rfl) 4 _ rfl
  have b3w : W.heap[w.heap.size + 1 + 1]? = some (.cells A0 32 (0, 0)) := hM.blk B3.out (by omega)
  have b4w : W.heap[w.heap.size + 1 + 1 + 1]? = some (.cells E0 38 (0, 0)) := hM.blk B4.out (by omega)
  have hBw : Below w.heap.size w W := hM.after hB1.out hB1.out.size (fun k hk => by omega)
  rw [← hW]
  clear hW hM c3 c4 f3 f4
  refine Ev.region_ev (Ev.Two W (w.heap.size + 1 + 1) (w.heap.size + 1 + 1 + 1) 32 38 A0 (ans 8 (m : Int) ⟨#[]⟩) E0 (Ent.c { e with val := dec m, cas := ver }) 3 4) (by kernel_rfl) (by kernel_rfl) (Ev.two_start b3w b4w) ?_
  refine Ev.ev_step (v := .int .u64 (m : Int)) rfl rfl (Ev.two_pure (by decide) (by decide) (fun _ => by rfl)) ?_
  refine Ev.ev_step (v := .agg (ans 8 (m : Int) ⟨#[]⟩)) rfl rfl (Ev.two_pure (by decide) (by decide) (fun _ => by first | (go_simp; done) | (go_simp; rfl))) ?_
  refine Ev.ev_step (v := .agg (Ent.c { e with val := dec m, cas := ver })) rfl rfl (Ev.two_load (by decide) (by decide) 38 (.tmp 4) rfl (w.heap.size + 1) rfl _ _ _ b2w (by omega) (by omega) Tryd.underlying38 rfl (by kernel_rfl)) ?_
  refine Ev.ev_step (v := undef) rfl rfl (Ev.two_store1 (by decide) (by omega) 32 (.tmp 6) (.tmp 40) rfl rfl rfl rfl (by kernel_rfl) (ans_one _ _ _)) ?_
  refine Ev.ev_step (v := undef) rfl rfl (Ev.two_store2 (by decide) (by omega) 38 (.tmp 7) (.tmp 41) rfl rfl rfl rfl (by kernel_rfl) (ent_one _)) ?_
  refine Ev.ev_step (v := .bool true) rfl rfl (Ev.two_pure (by decide) (by decide) (fun _ => by rfl)) ?_
  refine Ev.ev_nil (fun w_e hw_e => ?_)
  obtain ⟨hM_e, hA_e, hX_e⟩ := Ev.two_end hw_e (by decide) (by decide)
  clear hw_e
  go_wp2
  refine bodyPost_ret (Ev.results_c2 rfl rfl hA_e Tryd.underlying32 rfl (by kernel_rfl) rfl hX_e Tryd.underlying38 rfl (by kernel_rfl) rfl) rfl ⟨rfl, ?_⟩
  exact Mod.after hBw hBw.size hM_e (fun k hk => by omega)
end Go.Proofs.YtepklobkppdliaaDoor.Md
end
