/- The document: its Number, digits, Deadline, say. The document: Next (set, add, replace; no entry). The document: Next (cas, delete; no entry; any other verb). -/
import Derived.Test.YtepklobkppdliaaDoorMd17
import Derived.Test.YtepklobkppdliaaDoorPModelNextx3
namespace Go.Proofs.YtepklobkppdliaaDoor.Md
open Go.RowKit Go.Proofs.YtepklobkppdliaaDoorW.PrintWords Go.Proofs.YtepklobkppdliaaDoorW.PrintLast Go.Proofs.YtepklobkppdliaaDoorW.PrintMore Go.Proofs.YtepklobkppdliaaDoor.Lib Go.Proofs.YtepklobkppdliaaDoor.Open
open PModelNext
theorem tl_nil (s : ByteArray) : (s.toList = ([] : List UInt8)) ↔ s.size = 0 := by
  rw [ByteArray.toList_eq]
  obtain ⟨⟨l⟩⟩ := s
  show l = [] ↔ l.length = 0
  exact List.length_eq_zero_iff.symm
theorem refNumber_l (s : ByteArray) (hs : s.size ≤ 20) : ∀ (d i : Nat) (n : Int), i + d = s.size → 0 ≤ n → n ≤ 18446744073709551615 →
    depotref9_Number.l0 (d + 1) s 18446744073709551615 n (i : Int) = some (nout (numGo (s.data.toList.drop i) n)) := by
  intro d
  induction d with
  | zero =>
    intro i n hi h0 h1
    unfold depotref9_Number.l0
    rw [if_neg (by omega), List.drop_eq_nil_of_le (by simp; omega)]
    rfl
  | succ d ih =>
    intro i n hi h0 h1
    have hlt : i < s.size := by omega
    have hb := bt_data s i hlt
    have hr := bt_range s (i : Int)
    have hl : i < s.data.toList.length := by simpa using hlt
    have hd : s.data.toList.drop i = s.data.toList[i] :: s.data.toList.drop (i + 1) := List.drop_eq_getElem_cons hl
    rw [hd]
    obtain ⟨b, hbb⟩ : ∃ b, b = bt s (i : Int) := ⟨_, rfl⟩
    unfold depotref9_Number.l0 numGo
    rw [if_pos (by omega), if_pos (by omega), ← hb, ← hbb]
    rw [← hbb] at hr
    by_cases c1 : b < 48
    · rw [if_pos c1, if_pos (.inl c1)]
      rfl
    · rw [if_neg c1]
      by_cases c2 : 57 < b
      · rw [if_pos c2, if_pos (.inr c2)]
        rfl
      · rw [if_neg (show ¬ b > 57 by omega), if_neg (show ¬ (b < 48 ∨ 57 < b) by omega)]
        have w1 : ∀ x : Int, 0 ≤ x → x ≤ 18446744073709551615 → IntKind.u64.wrap x = x := fun x a c => IntWalk.u64_in x (by omega)
        have e0 : IntKind.u64.wrap (IntKind.u64.wrap b - 48) = b - 48 := by rw [w1 b (by omega) (by omega), w1 _ (by omega) (by omega)]
        have e3 : IntKind.u64.wrap (Int.tdiv (IntKind.u64.wrap (18446744073709551615 - (b - 48))) 10) = (18446744073709551615 - (b - 48)) / 10 := by
          rw [w1 (18446744073709551615 - (b - 48)) (by omega) (by omega), Int.tdiv_eq_ediv_of_nonneg (by omega), w1 _ (by omega) (by omega)]
        rw [e0, e3]
        by_cases c3 : (18446744073709551615 - (b - 48)) / 10 < n
        · rw [if_pos c3, if_pos c3]
          rfl
        · rw [if_neg c3, if_neg c3, if_neg (by omega)]
          have e1 : IntKind.u64.wrap (IntKind.u64.wrap (n * 10) + (b - 48)) = 10 * n + (b - 48) := by
            rw [w1 (n * 10) (by omega) (by omega), w1 _ (by omega) (by omega)]
            omega
          have e2 : wrap64 ((i : Int) + 1) = ((i + 1 : Nat) : Int) := by unfold wrap64; omega
          rw [e1, e2]
          exact ih (i + 1) _ (by omega) (by omega) (by omega)
theorem refNumber_f (s : ByteArray) : depotref9_Number.f 22 s 18446744073709551615 = some (nout (numOf s)) := by
  unfold depotref9_Number.f numOf
  by_cases h1 : s.size < 1
  · rw [if_pos ((tl_nil s).2 (by omega)), if_pos (.inl h1)]
    rfl
  · rw [if_neg (fun h => by have := (tl_nil s).1 h; omega)]
    by_cases h2 : 20 < s.size
    · rw [decide_eq_true (by omega), if_pos (.inr h2)]
      rfl
    · rw [decide_eq_false (by omega), if_neg (by omega)]
      show (if false = true then some (0, false) else depotref9_Number.l0 21 s 18446744073709551615 0 0) = _
      rw [if_neg (by decide)]
      have := refNumber_l s (by omega) s.size 0 0 (by omega) (by omega) (by omega)
      exact at_rounds (g := fun k => depotref9_Number.l0 k s 18446744073709551615 0 0) (fun k => (depotref9_Number.mono_l k).2 _ _ _ _) (show s.size + 1 ≤ 21 by omega) this
theorem refNumber_calls (s : ByteArray) (w : World) : Calls Tryd.prog 55 #[.string s, .int .u64 18446744073709551615] w fun e w' => e = .returned (.tuple #[.int .u64 (nout (numOf s)).1, .bool (nout (numOf s)).2]) ∧ Drawn0 w w' :=
  depotref9_Number.calls 22 s _ _ _ w (refNumber_f s)
theorem strOfNums_one (n : Nat) (hn : n < 10) : strOfNums [(48 + (n : Int)) % 256] = ⟨#[UInt8.ofNat (48 + n)]⟩ := by
  have e : ((48 + (n : Int)) % 256).toNat = 48 + n := by omega
  simp [strOfNums, e]
theorem digits_l : ∀ (n : Nat), n < 18446744073709551616 → ∀ (s : ByteArray) (k : Nat), (0 < n ∨ s.size = 0) → s.size + Lib.nDigits n ≤ 100 → Lib.nDigits n + 1 ≤ k → depotref9_digits.l0 k (n : Int) s = some (dec n ++ s) := by
  intro n
  induction n using Nat.strongRecOn with
  | _ n ih =>
    intro hn s k hp hs hk
    obtain ⟨k, rfl⟩ : ∃ j, k = j + 1 := ⟨k - 1, by omega⟩
    have hnd := Lib.nDigits_pos n
    have hw : IntKind.u64.wrap (48 + Int.tmod (n : Int) 10) = 48 + ((n % 10 : Nat) : Int) := by
      rw [Int.tmod_eq_emod_of_nonneg (by omega), IntKind.wrap_u64]
      omega
    have hq : IntKind.u64.wrap (Int.tdiv (n : Int) 10) = ((n / 10 : Nat) : Int) := by
      rw [Int.tdiv_eq_ediv_of_nonneg (by omega), IntKind.wrap_u64]
      omega
    have hc := strOfNums_one (n % 10) (by omega)
    have hz : (strOfNums [(48 + ((n % 10 : Nat) : Int)) % 256]).size = 1 := by rw [hc]; rfl
    have hgo : ((some ([(IntKind.u64.wrap (48 + Int.tmod (n : Int) 10)) % 256] : List Int)).bind fun y => if (strOfNums y).size + s.size ≤ 9223372036854775807 then depotref9_digits.l0 k (IntKind.u64.wrap (Int.tdiv (n : Int) 10)) (strOfNums y ++ s) else none) = some (dec n ++ s) := by
      rw [Option.bind_some, hw, hq, if_pos (by omega), hc]
      by_cases h10 : n < 10
      · have hn0 : n / 10 = 0 := by omega
        have hd : dec n = ⟨#[UInt8.ofNat (48 + n % 10)]⟩ := by
          unfold dec
          rw [Lib.decDigits, dif_pos h10, show n % 10 = n by omega]
        obtain ⟨k, rfl⟩ : ∃ j, k = j + 1 := ⟨k - 1, by omega⟩
        rw [hn0, hd]
        unfold depotref9_digits.l0
        rw [if_neg (by omega), if_neg (fun h => by have h1 := (tl_nil _).1 h; rw [ByteArray.size_append] at h1; have h2 : (⟨#[UInt8.ofNat (48 + n % 10)]⟩ : ByteArray).size = 1 := rfl; omega)]
      · have hb := Lib.nDigits_big h10
        rw [ih (n / 10) (by omega) (by omega) _ k (.inl (by omega)) (by rw [ByteArray.size_append]; have h2 : (⟨#[UInt8.ofNat (48 + n % 10)]⟩ : ByteArray).size = 1 := rfl; omega) (by omega)]
        congr 1
        have hd : dec n = dec (n / 10) ++ ⟨#[UInt8.ofNat (48 + n % 10)]⟩ := by
          unfold dec
          rw [Lib.decDigits, dif_neg h10]
          apply ByteArray.ext
          simp
        rw [hd, ByteArray.append_assoc]
    unfold depotref9_digits.l0
    by_cases h0 : 0 < n
    · rw [if_pos (by omega)]
      exact hgo
    · rw [if_neg (by omega), if_pos ((tl_nil s).2 (by omega))]
      exact hgo
theorem refDigits_calls (n : Nat) (hn : n < 18446744073709551616) (w : World) : Calls Tryd.prog 56 #[.int .u64 (n : Int)] w fun e w' => e = .returned (.string (dec n)) ∧ Below w.heap.size w w' := by
  have hd : Lib.nDigits n ≤ 20 := by
    by_cases h0 : n = 0
    · subst h0
      rw [Lib.nDigits_small (by omega)]
      omega
    · have := Lib.numDigits_eq n (by omega) hn
      split at this <;> omega
  refine depotref9_digits.calls 22 n (dec n) w ?_
  unfold depotref9_digits.f
  have := digits_l n hn ⟨#[]⟩ 22 (.inr rfl) (by have : (⟨#[]⟩ : ByteArray).size = 0 := rfl; omega) (by omega)
  rw [this]
  congr 1
  apply ByteArray.ext
  simp
theorem refDead_calls (x now : Int) (w : World) : Calls Tryd.prog 40 #[.int .i64 x, .int .i64 now] w fun e w' => e = .returned (.int .i64 (dead x now)) ∧ Below w.heap.size w w' := by
  refine Pr.depotref9_Deadline.calls x now _ w ?_
  unfold Pr.depotref9_Deadline.f dead
  by_cases h : x = 0
  · rw [if_pos h, if_pos h]
  · rw [if_neg h, if_neg h]
    by_cases h1 : x < 0
    · rw [if_pos h1, if_pos h1]
    · rw [if_neg h1, if_neg h1]
      by_cases h2 : x ≤ 2592000
      · rw [if_pos h2, if_pos h2]
        congr 1
        unfold tm mn mx wrap64
        repeat' split
        all_goals omega
      · rw [if_neg h2, if_neg h2]
        congr 1
        unfold tm mn
        repeat' split
        all_goals omega
set_option maxHeartbeats 4000000 in
set_option maxRecDepth 100000 in
theorem refSay_calls (k : Int) (w : World) : Calls Tryd.prog 41 #[.int .i64 k] w fun e w' => e = .returned (.agg (ans k 0 ⟨#[]⟩)) ∧ Below w.heap.size w w' := by
  go_enter Tryd.func41, Tryd.ntmps41
  go_wp2
  exact bodyPost_ret (results_cell_row rfl _ _ w.heap.size 32 _ (0, 0) _ rfl (blk_new w _) Tryd.underlying32 rfl (by kernel_rfl)) rfl ⟨rfl, below_alloc (Below.refl _ _) _⟩
end Go.Proofs.YtepklobkppdliaaDoor.Md
namespace Go.Proofs.YtepklobkppdliaaDoor.Md
open Go.RowKit Go.Proofs.YtepklobkppdliaaDoorW.PrintWords Go.Proofs.YtepklobkppdliaaDoorW.PrintLast Go.Proofs.YtepklobkppdliaaDoorW.PrintMore Go.Proofs.YtepklobkppdliaaDoor.Lib Go.Proofs.YtepklobkppdliaaDoor.Open
section
variable {P : Program} {o : Oper} {a : Act} {W : World} {md : Region.Mode} {g : Nat} {t : TypeId} {cs : Array Bool → Array Value}
/-- One block is written, by one operation or by more: what it holds follows from what is done. -/
structure Gen (W : World) (g : Nat) (t : TypeId) (cs : Array Bool → Array Value) (S : Array Bool) (w : World) : Prop where
  mod : Mod (fun q => q = g) W w
  blk : w.heap[g]? = some (.cells (cs S) t (0, 0))
theorem no_bit (m i : Nat) : (Array.replicate m false).getD i false = false := by
  rw [Array.getD_eq_getD_getElem?, Array.getElem?_replicate]
  split <;> rfl
theorem all_bit {m i : Nat} (h : i < m) : (Array.replicate m true).getD i false = true := by
  rw [Array.getD_eq_getD_getElem?, Array.getElem?_replicate, if_pos h]
  rfl
theorem gen_start {m : Nat} {c : Array Value} (h : W.heap[g]? = some (.cells c t (0, 0))) (hc : cs (Array.replicate m false) = c) : Gen W g t cs (Array.replicate m false) W.drew := by
  refine ⟨(Mod.refl _ _).drew, ?_⟩
  rw [hc]
  exact h
theorem gen_idle {i : Nat} (h : ∀ S : Array Bool, cs (S.setIfInBounds i true) = cs S) : Ev.Idle (Gen W g t cs) i := fun S w _ hC => ⟨hC.mod, by rw [h]; exact hC.blk⟩
theorem gen_pure {i : Nat} {v : Value} (hi : ∀ S : Array Bool, cs (S.setIfInBounds i true) = cs S) (h : ∀ w, (execOp a.eval o).run P w = .ok (.value v) w) : Ev.Does P md (Gen W g t cs) i o a v := Ev.does_pure (gen_idle hi) h
theorem gen_load {i : Nat} {v : Value} (hi : ∀ S : Array Bool, cs (S.setIfInBounds i true) = cs S) (p : Addr) (hc : W.cell? p = some v) (hp : p.block ≠ g) (h : ∀ w : World, w.cell? p = some v → (execOp a.eval o).run P w = .ok (.value v) w) :
    Ev.Does P md (Gen W g t cs) i o a v := fun S w h0 _ hC => by
  have hb := hC.mod.block p.block (World.block_lt_of_cell? _ _ hc) hp
  rw [h w (by rw [← hc]; unfold World.cell?; rw [hb])]
  exact ⟨rfl, gen_idle hi S w h0 hC⟩
theorem gen_call {i : Nat} {v : Value} (hi : ∀ S : Array Bool, cs (S.setIfInBounds i true) = cs S) (f : FuncId) (args : Array Value) (hrun : ∀ w, (execOp a.eval o).run P w = .ok (.enter f args) w) (hc : ∀ w, Calls P f args w (fun e w' => e = .returned v ∧ Below w.heap.size w w')) :
    Ev.Does P md (Gen W g t cs) i o a v := fun S w _ _ hC => by
  rw [hrun w]
  refine (hc w).mono fun e w' ⟨he, hb⟩ => ⟨he, hC.mod.then_below hb, ?_⟩
  rw [hi]
  exact (hb.block _ (blk_lt hC.blk)).trans hC.blk
theorem gen_store {i : Nat} (A : Array Value) (hi : ∀ S : Array Bool, S.getD i true = false → cs (S.setIfInBounds i true) = A) (hs : ∀ S : Array Bool, (cs S).size = A.size) (ty : TypeId) (x y : Operand) (ho : o.op = .store ty x y) (hx : a.eval x = .pointer (some ⟨g, 0, none⟩)) (hy : a.eval y = .agg A)
    (hinf : (P.info? ty).map (·.size) = some A.size) (h1 : A.all (·.oneCell') = true) : Ev.Does P md (Gen W g t cs) i o a undef := fun S w h0 _ hC => by
  rw [Ev.run_store_whole ty x y ho g A hx hy t (cs S) hC.blk hinf (hs S) h1]
  obtain ⟨r1, r2⟩ := Ev.row_mod g (cs S) A t hC.blk
  exact ⟨rfl, hC.mod.trans r2 (fun k hk => .inl hk), by rw [hi S h0]; exact r1⟩
theorem gen_cell {i : Nat} (off : Nat) (v old : Value) (hold : ∀ S : Array Bool, S.getD i true = false → (cs S)[off]? = some old) (hi : ∀ S : Array Bool, S.getD i true = false → (cs S).setIfInBounds off v = cs (S.setIfInBounds i true))
    (hrun : ∀ w : World, w.cell? ⟨g, off, none⟩ = some old → w.frozen? ⟨g, off, none⟩ = false → (execOp a.eval o).run P w = .ok (.value undef) (w.setCell ⟨g, off, none⟩ v) ∨ (execOp a.eval o).run P w = .ok .skip (w.setCell ⟨g, off, none⟩ v)) : Ev.Does P md (Gen W g t cs) i o a undef := fun S w h0 _ hC => by
  have hG : Gen W g t cs (S.setIfInBounds i true) (w.setCell ⟨g, off, none⟩ v) := ⟨Mod.setCell (p := ⟨g, off, none⟩) hC.mod (.inl rfl) v, blk_put hC.blk off v (hi S h0)⟩
  rcases hrun w ((blk_cell hC.blk off).trans (hold S h0)) (blk_frozen hC.blk off) with h | h
  · rw [h]
    exact ⟨rfl, hG⟩
  · rw [h]
    exact ⟨rfl, hG⟩
end
/-- The block of the fresh entry. -/
def freshAt (X : Array Value) (S : Array Bool) : Array Value := if S.getD 12 false = true then X else E0
theorem freshAt_other (X : Array Value) {i : Nat} (h : i ≠ 12) (S : Array Bool) : freshAt X (S.setIfInBounds i true) = freshAt X S := by
  unfold freshAt
  rw [Ev.set_other h]
set_option maxHeartbeats 4000000 in
set_option maxRecDepth 100000 in
theorem rnext_set (r : Rq) (kv : Value) (e : Ent) (there : Bool) (now ver : Int) (w : World) (hr : r.verb = 3) :
    Calls Tryd.prog 18 #[.agg (r.c kv), .agg e.c, .bool there, .int .i64 now, .int .i64 ver] w fun e_ w' => e_ = .returned (.tuple #[.agg (ans 2 0 ⟨#[]⟩), .agg (fresh r e now ver).c, .bool true, .bool false]) ∧ Below w.heap.size w w' := by
  have HR := Aside0.mk hr
  clear hr
  simp only [Rq.c, Ent.c]
  go_enter Tryd.func18, Tryd.ntmps18
  go_wp2
  obtain ⟨W, hW⟩ : ∃ W, W = (((w.alloc (.cells (r.c kv) 27)).alloc (.cells e.c 38)).alloc (.cells A0 32)).alloc (.cells E0 38) := ⟨_, rfl⟩
  obtain ⟨b1, b2, b3, b4, hB⟩ := four w (.cells (r.c kv) 27) (.cells e.c 38) (.cells A0 32) (.cells E0 38)
  change Code.wp _ _ _ _ ((((w.alloc (.cells (r.c kv) 27)).alloc (.cells e.c 38)).alloc (.cells A0 32)).alloc (.cells E0 38))
  rw [← hW] at b1 b2 b3 b4 hB ⊢
  clear hW
  have c60 : W.cell? ⟨w.heap.size + 1, 0, none⟩ = some (.string e.key) := blk_cell b2 0
  have c52 : W.cell? ⟨w.heap.size, 2, none⟩ = some (.int .i64 r.fl) := blk_cell b1 2
  have c53 : W.cell? ⟨w.heap.size, 3, none⟩ = some (.int .i64 r.exp) := blk_cell b1 3
  have c58 : W.cell? ⟨w.heap.size, 8, none⟩ = some (.string r.data) := blk_cell b1 8
  refine Ev.region_ev (Gen W (w.heap.size + 1 + 1 + 1) 38 (freshAt (fresh r e now ver).c)) (by kernel_rfl) (by kernel_rfl) (gen_start b4 (by unfold freshAt; rw [no_bit]; rfl)) ?_
  refine Ev.ev_step (v := .pointer (some ⟨(w.heap.size + 1), 0, none⟩)) rfl rfl (gen_pure (freshAt_other _ (by decide)) (fun _ => by first | rfl | (go_simp; done) | (go_simp; rfl))) ?_
  simp only [Act.put, List.setIfInBounds_toArray, List.set_cons_succ, List.set_cons_zero]
  refine Ev.ev_step (v := .string e.key) rfl rfl (gen_load (freshAt_other _ (by decide)) ⟨(w.heap.size + 1), 0, none⟩ (c60) (show (w.heap.size + 1) ≠ (w.heap.size + 1 + 1 + 1) by omega) (fun w hc => by go_simp)) ?_
  simp only [Act.put, List.setIfInBounds_toArray, List.set_cons_succ, List.set_cons_zero]
  refine Ev.ev_step (v := .pointer (some ⟨w.heap.size, 2, none⟩)) rfl rfl (gen_pure (freshAt_other _ (by decide)) (fun _ => by first | rfl | (go_simp; done) | (go_simp; rfl))) ?_
  simp only [Act.put, List.setIfInBounds_toArray, List.set_cons_succ, List.set_cons_zero]
  refine Ev.ev_step (v := .int .i64 r.fl) rfl rfl (gen_load (freshAt_other _ (by decide)) ⟨w.heap.size, 2, none⟩ (c52) (show w.heap.size ≠ (w.heap.size + 1 + 1 + 1) by omega) (fun w hc => by go_simp)) ?_
  simp only [Act.put, List.setIfInBounds_toArray, List.set_cons_succ, List.set_cons_zero]
  refine Ev.ev_step (v := .pointer (some ⟨w.heap.size, 3, none⟩)) rfl rfl (gen_pure (freshAt_other _ (by decide)) (fun _ => by first | rfl | (go_simp; done) | (go_simp; rfl))) ?_
  simp only [Act.put, List.setIfInBounds_toArray, List.set_cons_succ, List.set_cons_zero]
  refine Ev.ev_step (v := .int .i64 r.exp) rfl rfl (gen_load (freshAt_other _ (by decide)) ⟨w.heap.size, 3, none⟩ (c53) (show w.heap.size ≠ (w.heap.size + 1 + 1 + 1) by omega) (fun w hc => by go_simp)) ?_
  simp only [Act.put, List.setIfInBounds_toArray, List.set_cons_succ, List.set_cons_zero]
  refine Ev.ev_step (v := .int .i64 now) rfl rfl (gen_pure (freshAt_other _ (by decide)) (fun _ => by first | rfl | (go_simp; done) | (go_simp; rfl))) ?_
  simp only [Act.put, List.setIfInBounds_toArray, List.set_cons_succ, List.set_cons_zero]
  refine Ev.ev_step (v := .int .i64 (dead r.exp now)) rfl rfl (gen_call (freshAt_other _ (by decide)) 40 #[.int .i64 r.exp, .int .i64 now] (fun _ => by first | (go_simp; done) | (go_simp; rfl)) (fun w => refDead_calls _ _ w)) ?_
  simp only [Act.put, List.setIfInBounds_toArray, List.set_cons_succ, List.set_cons_zero]
  refine Ev.ev_step (v := .pointer (some ⟨w.heap.size, 8, none⟩)) rfl rfl (gen_pure (freshAt_other _ (by decide)) (fun _ => by first | rfl | (go_simp; done) | (go_simp; rfl))) ?_
  simp only [Act.put, List.setIfInBounds_toArray, List.set_cons_succ, List.set_cons_zero]
  refine Ev.ev_step (v := .string r.data) rfl rfl (gen_load (freshAt_other _ (by decide)) ⟨w.heap.size, 8, none⟩ (c58) (show w.heap.size ≠ (w.heap.size + 1 + 1 + 1) by omega) (fun w hc => by go_simp)) ?_
  simp only [Act.put, List.setIfInBounds_toArray, List.set_cons_succ, List.set_cons_zero]
  refine Ev.ev_step (v := .int .i64 ver) rfl rfl (gen_pure (freshAt_other _ (by decide)) (fun _ => by first | rfl | (go_simp; done) | (go_simp; rfl))) ?_
  simp only [Act.put, List.setIfInBounds_toArray, List.set_cons_succ, List.set_cons_zero]
  refine Ev.ev_step (v := .agg (fresh r e now ver).c) rfl rfl (gen_pure (freshAt_other _ (by decide)) (fun _ => by first | rfl | (go_simp; done) | (go_simp; rfl))) ?_
  simp only [Act.put, List.setIfInBounds_toArray, List.set_cons_succ, List.set_cons_zero]
  refine Ev.ev_step (v := undef) rfl rfl (gen_store (fresh r e now ver).c (fun S h => by unfold freshAt; rw [Ev.set_same h, if_pos rfl]) (fun S => by unfold freshAt; split <;> rfl) 38 (.tmp 11) (.tmp 26) rfl rfl rfl (by kernel_rfl) (ent_one _)) ?_
  simp only [Act.put]
  refine Ev.ev_nil (fun w_e hw_e => ?_)
  have hm := hw_e.mod
  have b4e := hw_e.blk
  rw [show freshAt (fresh r e now ver).c (Array.replicate _ true) = (fresh r e now ver).c by unfold freshAt; rw [all_bit (by decide), if_pos rfl]] at b4e
  clear hw_e c60 c52 c53 c58 b4
  replace b1 := hm.blk b1 (by omega)
  replace b2 := hm.blk b2 (by omega)
  replace b3 := hm.blk b3 (by omega)
  replace hB := hm.after hB hB.size (fun k hk => by omega)
  have b4 := b4e
  clear hm b4e
  have hr := HR.out
  have e3 : (r.verb == 3) = true := by rw [hr]; rfl
  have e4 : (r.verb == 4) = false := by rw [hr]; rfl
  have e5 : (r.verb == 5) = false := by rw [hr]; rfl
  have e6 : (r.verb == 6) = false := by rw [hr]; rfl
  have e7 : (r.verb == 7) = false := by rw [hr]; rfl
  have e8 : (r.verb == 8) = false := by rw [hr]; rfl
  have e9 : (r.verb == 9) = false := by rw [hr]; rfl
  have e10 : (r.verb == 10) = false := by rw [hr]; rfl
  have e11 : (r.verb == 11) = false := by rw [hr]; rfl
  have e12 : (r.verb == 12) = false := by rw [hr]; rfl
  have c50 : w_e.cell? ⟨w.heap.size, 0, none⟩ = some (.int .i64 r.verb) := blk_cell b1 0
  clear hr HR
  go_wp2
  clear e3 e4 e5 e6 e7 e8 e9 e10 e11 e12 c50
  obtain ⟨W2, hW2⟩ : ∃ W2, W2 = w_e := ⟨_, rfl⟩
  rw [← hW2] at b1 b2 b3 b4 hB ⊢
  clear hW2
  refine Ev.region_ev (Ev.Two W2 (w.heap.size + 1 + 1) (w.heap.size + 1 + 1 + 1) 32 38 A0 (ans 2 0 ⟨#[]⟩) (fresh r e now ver).c (fresh r e now ver).c 2 3) (by kernel_rfl) (by kernel_rfl) (Ev.two_start b3 b4) ?_
  refine Ev.ev_step (v := .agg (ans 2 0 ⟨#[]⟩)) rfl rfl (Ev.two_call (by decide) (by decide) 41 #[.int .i64 2] (fun _ => by first | (go_simp; done) | (go_simp; rfl)) (fun w => refSay_calls 2 w)) ?_
  simp only [Act.put, List.setIfInBounds_toArray, List.set_cons_succ, List.set_cons_zero]
  refine Ev.ev_step (v := .agg (fresh r e now ver).c) rfl rfl (Ev.two_load2 (by decide) (by decide) 38 (.tmp 11) rfl rfl _ rfl Tryd.underlying38 rfl (by kernel_rfl)) ?_
  simp only [Act.put, List.setIfInBounds_toArray, List.set_cons_succ, List.set_cons_zero]
  refine Ev.ev_step (v := undef) rfl rfl (Ev.two_store1 (by decide) (by omega) 32 (.tmp 10) (.tmp 31) rfl rfl rfl rfl (by kernel_rfl) (ans_one _ _ _)) ?_
  simp only [Act.put]
  refine Ev.ev_step (v := undef) rfl rfl (Ev.two_store2 (by decide) (by omega) 38 (.tmp 11) (.tmp 32) rfl rfl rfl rfl (by kernel_rfl) (ent_one _)) ?_
  simp only [Act.put]
  refine Ev.ev_step (v := .bool true) rfl rfl (Ev.two_pure (by decide) (by decide) (fun _ => by rfl)) ?_
  simp only [Act.put, List.setIfInBounds_toArray, List.set_cons_succ, List.set_cons_zero]
  refine Ev.ev_step (v := .bool false) rfl rfl (Ev.two_pure (by decide) (by decide) (fun _ => by rfl)) ?_
  simp only [Act.put, List.setIfInBounds_toArray, List.set_cons_succ, List.set_cons_zero]
  refine Ev.ev_nil (fun w_e hw_e => ?_)
  obtain ⟨hM_e, hA_e, hX_e⟩ := Ev.two_end hw_e (by decide) (by decide)
  clear hw_e
  go_wp2
  refine bodyPost_ret (Ev.results_c3 rfl rfl hA_e Tryd.underlying32 rfl (by kernel_rfl) rfl hX_e Tryd.underlying38 rfl (by kernel_rfl) rfl rfl) rfl ⟨rfl, ?_⟩
  exact Mod.after hB hB.size hM_e (fun k hk => by omega)
set_option maxHeartbeats 4000000 in
set_option maxRecDepth 100000 in
theorem rnext_add_no (r : Rq) (kv : Value) (e : Ent) (now ver : Int) (w : World) (hr : r.verb = 4) :
    Calls Tryd.prog 18 #[.agg (r.c kv), .agg e.c, .bool true, .int .i64 now, .int .i64 ver] w fun e_ w' => e_ = .returned (.tuple #[.agg (ans 3 0 ⟨#[]⟩), .agg (fresh r e now ver).c, .bool false, .bool false]) ∧ Below w.heap.size w w' := by
  have HR := Aside0.mk hr
  clear hr
  simp only [Rq.c, Ent.c]
  go_enter Tryd.func18, Tryd.ntmps18
  go_wp2
  obtain ⟨W, hW⟩ : ∃ W, W = (((w.alloc (.cells (r.c kv) 27)).alloc (.cells e.c 38)).alloc (.cells A0 32)).alloc (.cells E0 38) := ⟨_, rfl⟩
  obtain ⟨b1, b2, b3, b4, hB⟩ := four w (.cells (r.c kv) 27) (.cells e.c 38) (.cells A0 32) (.cells E0 38)
  change Code.wp _ _ _ _ ((((w.alloc (.cells (r.c kv) 27)).alloc (.cells e.c 38)).alloc (.cells A0 32)).alloc (.cells E0 38))
  rw [← hW] at b1 b2 b3 b4 hB ⊢
  clear hW
  have c60 : W.cell? ⟨w.heap.size + 1, 0, none⟩ = some (.string e.key) := blk_cell b2 0
  have c52 : W.cell? ⟨w.heap.size, 2, none⟩ = some (.int .i64 r.fl) := blk_cell b1 2
  have c53 : W.cell? ⟨w.heap.size, 3, none⟩ = some (.int .i64 r.exp) := blk_cell b1 3
  have c58 : W.cell? ⟨w.heap.size, 8, none⟩ = some (.string r.data) := blk_cell b1 8
  refine Ev.region_ev (Gen W (w.heap.size + 1 + 1 + 1) 38 (freshAt (fresh r e now ver).c)) (by kernel_rfl) (by kernel_rfl) (gen_start b4 (by unfold freshAt; rw [no_bit]; rfl)) ?_
  refine Ev.ev_step (v := .pointer (some ⟨(w.heap.size + 1), 0, none⟩)) rfl rfl (gen_pure (freshAt_other _ (by decide)) (fun _ => by first | rfl | (go_simp; done) | (go_simp; rfl))) ?_
  simp only [Act.put, List.setIfInBounds_toArray, List.set_cons_succ, List.set_cons_zero]
  refine Ev.ev_step (v := .string e.key) rfl rfl (gen_load (freshAt_other _ (by decide)) ⟨(w.heap.size + 1), 0, none⟩ (c60) (show (w.heap.size + 1) ≠ (w.heap.size + 1 + 1 + 1) by omega) (fun w hc => by go_simp)) ?_
  simp only [Act.put, List.setIfInBounds_toArray, List.set_cons_succ, List.set_cons_zero]
  refine Ev.ev_step (v := .pointer (some ⟨w.heap.size, 2, none⟩)) rfl rfl (gen_pure (freshAt_other _ (by decide)) (fun _ => by first | rfl | (go_simp; done) | (go_simp; rfl))) ?_
  simp only [Act.put, List.setIfInBounds_toArray, List.set_cons_succ, List.set_cons_zero]
  refine Ev.ev_step (v := .int .i64 r.fl) rfl rfl (gen_load (freshAt_other _ (by decide)) ⟨w.heap.size, 2, none⟩ (c52) (show w.heap.size ≠ (w.heap.size + 1 + 1 + 1) by omega) (fun w hc => by go_simp)) ?_
  simp only [Act.put, List.setIfInBounds_toArray, List.set_cons_succ, List.set_cons_zero]
  refine Ev.ev_step (v := .pointer (some ⟨w.heap.size, 3, none⟩)) rfl rfl (gen_pure (freshAt_other _ (by decide)) (fun _ => by first | rfl | (go_simp; done) | (go_simp; rfl))) ?_
  simp only [Act.put, List.setIfInBounds_toArray, List.set_cons_succ, List.set_cons_zero]
  refine Ev.ev_step (v := .int .i64 r.exp) rfl rfl (gen_load (freshAt_other _ (by decide)) ⟨w.heap.size, 3, none⟩ (c53) (show w.heap.size ≠ (w.heap.size + 1 + 1 + 1) by omega) (fun w hc => by go_simp)) ?_
  simp only [Act.put, List.setIfInBounds_toArray, List.set_cons_succ, List.set_cons_zero]
  refine Ev.ev_step (v := .int .i64 now) rfl rfl (gen_pure (freshAt_other _ (by decide)) (fun _ => by first | rfl | (go_simp; done) | (go_simp; rfl))) ?_
  simp only [Act.put, List.setIfInBounds_toArray, List.set_cons_succ, List.set_cons_zero]
  refine Ev.ev_step (v := .int .i64 (dead r.exp now)) rfl rfl (gen_call (freshAt_other _ (by decide)) 40 #[.int .i64 r.exp, .int .i64 now] (fun _ => by first | (go_simp; done) | (go_simp; rfl)) (fun w => refDead_calls _ _ w)) ?_
  simp only [Act.put, List.setIfInBounds_toArray, List.set_cons_succ, List.set_cons_zero]
  refine Ev.ev_step (v := .pointer (some ⟨w.heap.size, 8, none⟩)) rfl rfl (gen_pure (freshAt_other _ (by decide)) (fun _ => by first | rfl | (go_simp; done) | (go_simp; rfl))) ?_
  simp only [Act.put, List.setIfInBounds_toArray, List.set_cons_succ, List.set_cons_zero]
  refine Ev.ev_step (v := .string r.data) rfl rfl (gen_load (freshAt_other _ (by decide)) ⟨w.heap.size, 8, none⟩ (c58) (show w.heap.size ≠ (w.heap.size + 1 + 1 + 1) by omega) (fun w hc => by go_simp)) ?_
  simp only [Act.put, List.setIfInBounds_toArray, List.set_cons_succ, List.set_cons_zero]
  refine Ev.ev_step (v := .int .i64 ver) rfl rfl (gen_pure (freshAt_other _ (by decide)) (fun _ => by first | rfl | (go_simp; done) | (go_simp; rfl))) ?_
  simp only [Act.put, List.setIfInBounds_toArray, List.set_cons_succ, List.set_cons_zero]
  refine Ev.ev_step (v := .agg (fresh r e now ver).c) rfl rfl (gen_pure (freshAt_other _ (by decide)) (fun _ => by first | rfl | (go_simp; done) | (go_simp; rfl))) ?_
  simp only [Act.put, List.setIfInBounds_toArray, List.set_cons_succ, List.set_cons_zero]
  refine Ev.ev_step (v := undef) rfl rfl (gen_store (fresh r e now ver).c (fun S h => by unfold freshAt; rw [Ev.set_same h, if_pos rfl]) (fun S => by unfold freshAt; split <;> rfl) 38 (.tmp 11) (.tmp 26) rfl rfl rfl (by kernel_rfl) (ent_one _)) ?_
  simp only [Act.put]
  refine Ev.ev_nil (fun w_e hw_e => ?_)
  have hm := hw_e.mod
  have b4e := hw_e.blk
  rw [show freshAt (fresh r e now ver).c (Array.replicate _ true) = (fresh r e now ver).c by unfold freshAt; rw [all_bit (by decide), if_pos rfl]] at b4e
  clear hw_e c60 c52 c53 c58 b4
  replace b1 := hm.blk b1 (by omega)
  replace b2 := hm.blk b2 (by omega)
  replace b3 := hm.blk b3 (by omega)
  replace hB := hm.after hB hB.size (fun k hk => by omega)
  have b4 := b4e
  clear hm b4e
  have hr := HR.out
  have e3 : (r.verb == 3) = false := by rw [hr]; rfl
  have e4 : (r.verb == 4) = true := by rw [hr]; rfl
  have e5 : (r.verb == 5) = false := by rw [hr]; rfl
  have e6 : (r.verb == 6) = false := by rw [hr]; rfl
  have e7 : (r.verb == 7) = false := by rw [hr]; rfl
  have e8 : (r.verb == 8) = false := by rw [hr]; rfl
  have e9 : (r.verb == 9) = false := by rw [hr]; rfl
  have e10 : (r.verb == 10) = false := by rw [hr]; rfl
  have e11 : (r.verb == 11) = false := by rw [hr]; rfl
  have e12 : (r.verb == 12) = false := by rw [hr]; rfl
  have c50 : w_e.cell? ⟨w.heap.size, 0, none⟩ = some (.int .i64 r.verb) := blk_cell b1 0
  clear hr HR
  go_wp2
  clear e3 e4 e5 e6 e7 e8 e9 e10 e11 e12 c50
  obtain ⟨W2, hW2⟩ : ∃ W2, W2 = w_e := ⟨_, rfl⟩
  rw [← hW2] at b1 b2 b3 b4 hB ⊢
  clear hW2
  refine Ev.region_ev (Ev.Two W2 (w.heap.size + 1 + 1) (w.heap.size + 1 + 1 + 1) 32 38 A0 (ans 3 0 ⟨#[]⟩) (fresh r e now ver).c (fresh r e now ver).c 2 3) (by kernel_rfl) (by kernel_rfl) (Ev.two_start b3 b4) ?_
  refine Ev.ev_step (v := .agg (ans 3 0 ⟨#[]⟩)) rfl rfl (Ev.two_call (by decide) (by decide) 41 #[.int .i64 3] (fun _ => by first | (go_simp; done) | (go_simp; rfl)) (fun w => refSay_calls 3 w)) ?_
  simp only [Act.put, List.setIfInBounds_toArray, List.set_cons_succ, List.set_cons_zero]
  refine Ev.ev_step (v := .agg (fresh r e now ver).c) rfl rfl (Ev.two_load2 (by decide) (by decide) 38 (.tmp 11) rfl rfl _ rfl Tryd.underlying38 rfl (by kernel_rfl)) ?_
  simp only [Act.put, List.setIfInBounds_toArray, List.set_cons_succ, List.set_cons_zero]
  refine Ev.ev_step (v := undef) rfl rfl (Ev.two_store1 (by decide) (by omega) 32 (.tmp 10) (.tmp 41) rfl rfl rfl rfl (by kernel_rfl) (ans_one _ _ _)) ?_
  simp only [Act.put]
  refine Ev.ev_step (v := undef) rfl rfl (Ev.two_store2 (by decide) (by omega) 38 (.tmp 11) (.tmp 42) rfl rfl rfl rfl (by kernel_rfl) (ent_one _)) ?_
  simp only [Act.put]
  refine Ev.ev_step (v := .bool false) rfl rfl (Ev.two_pure (by decide) (by decide) (fun _ => by rfl)) ?_
  simp only [Act.put, List.setIfInBounds_toArray, List.set_cons_succ, List.set_cons_zero]
  refine Ev.ev_step (v := .bool false) rfl rfl (Ev.two_pure (by decide) (by decide) (fun _ => by rfl)) ?_
  simp only [Act.put, List.setIfInBounds_toArray, List.set_cons_succ, List.set_cons_zero]
  refine Ev.ev_nil (fun w_e hw_e => ?_)
  obtain ⟨hM_e, hA_e, hX_e⟩ := Ev.two_end hw_e (by decide) (by decide)
  clear hw_e
  go_wp2
  refine bodyPost_ret (Ev.results_c3 rfl rfl hA_e Tryd.underlying32 rfl (by kernel_rfl) rfl hX_e Tryd.underlying38 rfl (by kernel_rfl) rfl rfl) rfl ⟨rfl, ?_⟩
  exact Mod.after hB hB.size hM_e (fun k hk => by omega)
set_option maxHeartbeats 4000000 in
set_option maxRecDepth 100000 in
theorem rnext_add_yes (r : Rq) (kv : Value) (e : Ent) (now ver : Int) (w : World) (hr : r.verb = 4) :
    Calls Tryd.prog 18 #[.agg (r.c kv), .agg e.c, .bool false, .int .i64 now, .int .i64 ver] w fun e_ w' => e_ = .returned (.tuple #[.agg (ans 2 0 ⟨#[]⟩), .agg (fresh r e now ver).c, .bool true, .bool false]) ∧ Below w.heap.size w w' := by
  have HR := Aside0.mk hr
  clear hr
  simp only [Rq.c, Ent.c]
  go_enter Tryd.func18, Tryd.ntmps18
  go_wp2
  obtain ⟨W, hW⟩ : ∃ W, W = (((w.alloc (.cells (r.c kv) 27)).alloc (.cells e.c 38)).alloc (.cells A0 32)).alloc (.cells E0 38) := ⟨_, rfl⟩
  obtain ⟨b1, b2, b3, b4, hB⟩ := four w (.cells (r.c kv) 27) (.cells e.c 38) (.cells A0 32) (.cells E0 38)
  change Code.wp _ _ _ _ ((((w.alloc (.cells (r.c kv) 27)).alloc (.cells e.c 38)).alloc (.cells A0 32)).alloc (.cells E0 38))
  rw [← hW] at b1 b2 b3 b4 hB ⊢
  clear hW
  have c60 : W.cell? ⟨w.heap.size + 1, 0, none⟩ = some (.string e.key) := blk_cell b2 0
  have c52 : W.cell? ⟨w.heap.size, 2, none⟩ = some (.int .i64 r.fl) := blk_cell b1 2
  have c53 : W.cell? ⟨w.heap.size, 3, none⟩ = some (.int .i64 r.exp) := blk_cell b1 3
  have c58 : W.cell? ⟨w.heap.size, 8, none⟩ = some (.string r.data) := blk_cell b1 8
  refine Ev.region_ev (Gen W (w.heap.size + 1 + 1 + 1) 38 (freshAt (fresh r e now ver).c)) (by kernel_rfl) (by kernel_rfl) (gen_start b4 (by unfold freshAt; rw [no_bit]; rfl)) ?_
  refine Ev.ev_step (v := .pointer (some ⟨(w.heap.size + 1), 0, none⟩)) rfl rfl (gen_pure (freshAt_other _ (by decide)) (fun _ => by first | rfl | (go_simp; done) | (go_simp; rfl))) ?_
  simp only [Act.put, List.setIfInBounds_toArray, List.set_cons_succ, List.set_cons_zero]
  refine Ev.ev_step (v := .string e.key) rfl rfl (gen_load (freshAt_other _ (by decide)) ⟨(w.heap.size + 1), 0, none⟩ (c60) (show (w.heap.size + 1) ≠ (w.heap.size + 1 + 1 + 1) by omega) (fun w hc => by go_simp)) ?_
  simp only [Act.put, List.setIfInBounds_toArray, List.set_cons_succ, List.set_cons_zero]
  refine Ev.ev_step (v := .pointer (some ⟨w.heap.size, 2, none⟩)) rfl rfl (gen_pure (freshAt_other _ (by decide)) (fun _ => by first | rfl | (go_simp; done) | (go_simp; rfl))) ?_
  simp only [Act.put, List.setIfInBounds_toArray, List.set_cons_succ, List.set_cons_zero]
  refine Ev.ev_step (v := .int .i64 r.fl) rfl rfl (gen_load (freshAt_other _ (by decide)) ⟨w.heap.size, 2, none⟩ (c52) (show w.heap.size ≠ (w.heap.size + 1 + 1 + 1) by omega) (fun w hc => by go_simp)) ?_
  simp only [Act.put, List.setIfInBounds_toArray, List.set_cons_succ, List.set_cons_zero]
  refine Ev.ev_step (v := .pointer (some ⟨w.heap.size, 3, none⟩)) rfl rfl (gen_pure (freshAt_other _ (by decide)) (fun _ => by first | rfl | (go_simp; done) | (go_simp; rfl))) ?_
  simp only [Act.put, List.setIfInBounds_toArray, List.set_cons_succ, List.set_cons_zero]
  refine Ev.ev_step (v := .int .i64 r.exp) rfl rfl (gen_load (freshAt_other _ (by decide)) ⟨w.heap.size, 3, none⟩ (c53) (show w.heap.size ≠ (w.heap.size + 1 + 1 + 1) by omega) (fun w hc => by go_simp)) ?_
  simp only [Act.put, List.setIfInBounds_toArray, List.set_cons_succ, List.set_cons_zero]
  refine Ev.ev_step (v := .int .i64 now) rfl rfl (gen_pure (freshAt_other _ (by decide)) (fun _ => by first | rfl | (go_simp; done) | (go_simp; rfl))) ?_
  simp only [Act.put, List.setIfInBounds_toArray, List.set_cons_succ, List.set_cons_zero]
  refine Ev.ev_step (v := .int .i64 (dead r.exp now)) rfl rfl (gen_call (freshAt_other _ (by decide)) 40 #[.int .i64 r.exp, .int .i64 now] (fun _ => by first | (go_simp; done) | (go_simp; rfl)) (fun w => refDead_calls _ _ w)) ?_
  simp only [Act.put, List.setIfInBounds_toArray, List.set_cons_succ, List.set_cons_zero]
  refine Ev.ev_step (v := .pointer (some ⟨w.heap.size, 8, none⟩)) rfl rfl (gen_pure (freshAt_other _ (by decide)) (fun _ => by first | rfl | (go_simp; done) | (go_simp; rfl))) ?_
  simp only [Act.put, List.setIfInBounds_toArray, List.set_cons_succ, List.set_cons_zero]
  refine Ev.ev_step (v := .string r.data) rfl rfl (gen_load (freshAt_other _ (by decide)) ⟨w.heap.size, 8, none⟩ (c58) (show w.heap.size ≠ (w.heap.size + 1 + 1 + 1) by omega) (fun w hc => by go_simp)) ?_
  simp only [Act.put, List.setIfInBounds_toArray, List.set_cons_succ, List.set_cons_zero]
  refine Ev.ev_step (v := .int .i64 ver) rfl rfl (gen_pure (freshAt_other _ (by decide)) (fun _ => by first | rfl | (go_simp; done) | (go_simp; rfl))) ?_
  simp only [Act.put, List.setIfInBounds_toArray, List.set_cons_succ, List.set_cons_zero]
  refine Ev.ev_step (v := .agg (fresh r e now ver).c) rfl rfl (gen_pure (freshAt_other _ (by decide)) (fun _ => by first | rfl | (go_simp; done) | (go_simp; rfl))) ?_
  simp only [Act.put, List.setIfInBounds_toArray, List.set_cons_succ, List.set_cons_zero]
  refine Ev.ev_step (v := undef) rfl rfl (gen_store (fresh r e now ver).c (fun S h => by unfold freshAt; rw [Ev.set_same h, if_pos rfl]) (fun S => by unfold freshAt; split <;> rfl) 38 (.tmp 11) (.tmp 26) rfl rfl rfl (by kernel_rfl) (ent_one _)) ?_
  simp only [Act.put]
  refine Ev.ev_nil (fun w_e hw_e => ?_)
  have hm := hw_e.mod
  have b4e := hw_e.blk
  rw [show freshAt (fresh r e now ver).c (Array.replicate _ true) = (fresh r e now ver).c by unfold freshAt; rw [all_bit (by decide), if_pos rfl]] at b4e
  clear hw_e c60 c52 c53 c58 b4
  replace b1 := hm.blk b1 (by omega)
  replace b2 := hm.blk b2 (by omega)
  replace b3 := hm.blk b3 (by omega)
  replace hB := hm.after hB hB.size (fun k hk => by omega)
  have b4 := b4e
  clear hm b4e
  have hr := HR.out
  have e3 : (r.verb == 3) = false := by rw [hr]; rfl
  have e4 : (r.verb == 4) = true := by rw [hr]; rfl
  have e5 : (r.verb == 5) = false := by rw [hr]; rfl
  have e6 : (r.verb == 6) = false := by rw [hr]; rfl
  have e7 : (r.verb == 7) = false := by rw [hr]; rfl
  have e8 : (r.verb == 8) = false := by rw [hr]; rfl
  have e9 : (r.verb == 9) = false := by rw [hr]; rfl
  have e10 : (r.verb == 10) = false := by rw [hr]; rfl
  have e11 : (r.verb == 11) = false := by rw [hr]; rfl
  have e12 : (r.verb == 12) = false := by rw [hr]; rfl
  have c50 : w_e.cell? ⟨w.heap.size, 0, none⟩ = some (.int .i64 r.verb) := blk_cell b1 0
  clear hr HR
  go_wp2
  clear e3 e4 e5 e6 e7 e8 e9 e10 e11 e12 c50
  obtain ⟨W2, hW2⟩ : ∃ W2, W2 = w_e := ⟨_, rfl⟩
  rw [← hW2] at b1 b2 b3 b4 hB ⊢
  clear hW2
  refine Ev.region_ev (Ev.Two W2 (w.heap.size + 1 + 1) (w.heap.size + 1 + 1 + 1) 32 38 A0 (ans 2 0 ⟨#[]⟩) (fresh r e now ver).c (fresh r e now ver).c 2 3) (by kernel_rfl) (by kernel_rfl) (Ev.two_start b3 b4) ?_
  refine Ev.ev_step (v := .agg (ans 2 0 ⟨#[]⟩)) rfl rfl (Ev.two_call (by decide) (by decide) 41 #[.int .i64 2] (fun _ => by first | (go_simp; done) | (go_simp; rfl)) (fun w => refSay_calls 2 w)) ?_
  simp only [Act.put, List.setIfInBounds_toArray, List.set_cons_succ, List.set_cons_zero]
  refine Ev.ev_step (v := .agg (fresh r e now ver).c) rfl rfl (Ev.two_load2 (by decide) (by decide) 38 (.tmp 11) rfl rfl _ rfl Tryd.underlying38 rfl (by kernel_rfl)) ?_
  simp only [Act.put, List.setIfInBounds_toArray, List.set_cons_succ, List.set_cons_zero]
  refine Ev.ev_step (v := undef) rfl rfl (Ev.two_store1 (by decide) (by omega) 32 (.tmp 10) (.tmp 43) rfl rfl rfl rfl (by kernel_rfl) (ans_one _ _ _)) ?_
  simp only [Act.put]
  refine Ev.ev_step (v := undef) rfl rfl (Ev.two_store2 (by decide) (by omega) 38 (.tmp 11) (.tmp 44) rfl rfl rfl rfl (by kernel_rfl) (ent_one _)) ?_
  simp only [Act.put]
  refine Ev.ev_step (v := .bool true) rfl rfl (Ev.two_pure (by decide) (by decide) (fun _ => by rfl)) ?_
  simp only [Act.put, List.setIfInBounds_toArray, List.set_cons_succ, List.set_cons_zero]
  refine Ev.ev_step (v := .bool false) rfl rfl (Ev.two_pure (by decide) (by decide) (fun _ => by rfl)) ?_
  simp only [Act.put, List.setIfInBounds_toArray, List.set_cons_succ, List.set_cons_zero]
  refine Ev.ev_nil (fun w_e hw_e => ?_)
  obtain ⟨hM_e, hA_e, hX_e⟩ := Ev.two_end hw_e (by decide) (by decide)
  clear hw_e
  go_wp2
  refine bodyPost_ret (Ev.results_c3 rfl rfl hA_e Tryd.underlying32 rfl (by kernel_rfl) rfl hX_e Tryd.underlying38 rfl (by kernel_rfl) rfl rfl) rfl ⟨rfl, ?_⟩
  exact Mod.after hB hB.size hM_e (fun k hk => by omega)
set_option maxHeartbeats 4000000 in
set_option maxRecDepth 100000 in
theorem rnext_rep_yes (r : Rq) (kv : Value) (e : Ent) (now ver : Int) (w : World) (hr : r.verb = 5) :
    Calls Tryd.prog 18 #[.agg (r.c kv), .agg e.c, .bool true, .int .i64 now, .int .i64 ver] w fun e_ w' => e_ = .returned (.tuple #[.agg (ans 2 0 ⟨#[]⟩), .agg (fresh r e now ver).c, .bool true, .bool false]) ∧ Below w.heap.size w w' := by
  have HR := Aside0.mk hr
  clear hr
  simp only [Rq.c, Ent.c]
  go_enter Tryd.func18, Tryd.ntmps18
  go_wp2
  obtain ⟨W, hW⟩ : ∃ W, W = (((w.alloc (.cells (r.c kv) 27)).alloc (.cells e.c 38)).alloc (.cells A0 32)).alloc (.cells E0 38) := ⟨_, rfl⟩
  obtain ⟨b1, b2, b3, b4, hB⟩ := four w (.cells (r.c kv) 27) (.cells e.c 38) (.cells A0 32) (.cells E0 38)
  change Code.wp _ _ _ _ ((((w.alloc (.cells (r.c kv) 27)).alloc (.cells e.c 38)).alloc (.cells A0 32)).alloc (.cells E0 38))
  rw [← hW] at b1 b2 b3 b4 hB ⊢
  clear hW
  have c60 : W.cell? ⟨w.heap.size + 1, 0, none⟩ = some (.string e.key) := blk_cell b2 0
  have c52 : W.cell? ⟨w.heap.size, 2, none⟩ = some (.int .i64 r.fl) := blk_cell b1 2
  have c53 : W.cell? ⟨w.heap.size, 3, none⟩ = some (.int .i64 r.exp) := blk_cell b1 3
  have c58 : W.cell? ⟨w.heap.size, 8, none⟩ = some (.string r.data) := blk_cell b1 8
  refine Ev.region_ev (Gen W (w.heap.size + 1 + 1 + 1) 38 (freshAt (fresh r e now ver).c)) (by kernel_rfl) (by kernel_rfl) (gen_start b4 (by unfold freshAt; rw [no_bit]; rfl)) ?_
  refine Ev.ev_step (v := .pointer (some ⟨(w.heap.size + 1), 0, none⟩)) rfl rfl (gen_pure (freshAt_other _ (by decide)) (fun _ => by first | rfl | (go_simp; done) | (go_simp; rfl))) ?_
  simp only [Act.put, List.setIfInBounds_toArray, List.set_cons_succ, List.set_cons_zero]
  refine Ev.ev_step (v := .string e.key) rfl rfl (gen_load (freshAt_other _ (by decide)) ⟨(w.heap.size + 1), 0, none⟩ (c60) (show (w.heap.size + 1) ≠ (w.heap.size + 1 + 1 + 1) by omega) (fun w hc => by go_simp)) ?_
  simp only [Act.put, List.setIfInBounds_toArray, List.set_cons_succ, List.set_cons_zero]
  refine Ev.ev_step (v := .pointer (some ⟨w.heap.size, 2, none⟩)) rfl rfl (gen_pure (freshAt_other _ (by decide)) (fun _ => by first | rfl | (go_simp; done) | (go_simp; rfl))) ?_
  simp only [Act.put, List.setIfInBounds_toArray, List.set_cons_succ, List.set_cons_zero]
  refine Ev.ev_step (v := .int .i64 r.fl) rfl rfl (gen_load (freshAt_other _ (by decide)) ⟨w.heap.size, 2, none⟩ (c52) (show w.heap.size ≠ (w.heap.size + 1 + 1 + 1) by omega) (fun w hc => by go_simp)) ?_
  simp only [Act.put, List.setIfInBounds_toArray, List.set_cons_succ, List.set_cons_zero]
  refine Ev.ev_step (v := .pointer (some ⟨w.heap.size, 3, none⟩)) rfl rfl (gen_pure (freshAt_other _ (by decide)) (fun _ => by first | rfl | (go_simp; done) | (go_simp; rfl))) ?_
  simp only [Act.put, List.setIfInBounds_toArray, List.set_cons_succ, List.set_cons_zero]
  refine Ev.ev_step (v := .int .i64 r.exp) rfl rfl (gen_load (freshAt_other _ (by decide)) ⟨w.heap.size, 3, none⟩ (c53) (show w.heap.size ≠ (w.heap.size + 1 + 1 + 1) by omega) (fun w hc => by go_simp)) ?_
  simp only [Act.put, List.setIfInBounds_toArray, List.set_cons_succ, List.set_cons_zero]
  refine Ev.ev_step (v := .int .i64 now) rfl rfl (gen_pure (freshAt_other _ (by decide)) (fun _ => by first | rfl | (go_simp; done) | (go_simp; rfl))) ?_
  simp only [Act.put, List.setIfInBounds_toArray, List.set_cons_succ, List.set_cons_zero]
  refine Ev.ev_step (v := .int .i64 (dead r.exp now)) rfl rfl (gen_call (freshAt_other _ (by decide)) 40 #[.int .i64 r.exp, .int .i64 now] (fun _ => by first | (go_simp; done) | (go_simp; rfl)) (fun w => refDead_calls _ _ w)) ?_
  simp only [Act.put, List.setIfInBounds_toArray, List.set_cons_succ, List.set_cons_zero]
  refine Ev.ev_step (v := .pointer (some ⟨w.heap.size, 8, none⟩)) rfl rfl (gen_pure (freshAt_other _ (by decide)) (fun _ => by first | rfl | (go_simp; done) | (go_simp; rfl))) ?_
  simp only [Act.put, List.setIfInBounds_toArray, List.set_cons_succ, List.set_cons_zero]
  refine Ev.ev_step (v := .string r.data) rfl rfl (gen_load (freshAt_other _ (by decide)) ⟨w.heap.size, 8, none⟩ (c58) (show w.heap.size ≠ (w.heap.size + 1 + 1 + 1) by omega) (fun w hc => by go_simp)) ?_
  simp only [Act.put, List.setIfInBounds_toArray, List.set_cons_succ, List.set_cons_zero]
  refine Ev.ev_step (v := .int .i64 ver) rfl rfl (gen_pure (freshAt_other _ (by decide)) (fun _ => by first | rfl | (go_simp; done) | (go_simp; rfl))) ?_
  simp only [Act.put, List.setIfInBounds_toArray, List.set_cons_succ, List.set_cons_zero]
  refine Ev.ev_step (v := .agg (fresh r e now ver).c) rfl rfl (gen_pure (freshAt_other _ (by decide)) (fun _ => by first | rfl | (go_simp; done) | (go_simp; rfl))) ?_
  simp only [Act.put, List.setIfInBounds_toArray, List.set_cons_succ, List.set_cons_zero]
  refine Ev.ev_step (v := undef) rfl rfl (gen_store (fresh r e now ver).c (fun S h => by unfold freshAt; rw [Ev.set_same h, if_pos rfl]) (fun S => by unfold freshAt; split <;> rfl) 38 (.tmp 11) (.tmp 26) rfl rfl rfl (by kernel_rfl) (ent_one _)) ?_
  simp only [Act.put]
  refine Ev.ev_nil (fun w_e hw_e => ?_)
  have hm := hw_e.mod
  have b4e := hw_e.blk
  rw [show freshAt (fresh r e now ver).c (Array.replicate _ true) = (fresh r e now ver).c by unfold freshAt; rw [all_bit (by decide), if_pos rfl]] at b4e
  clear hw_e c60 c52 c53 c58 b4
  replace b1 := hm.blk b1 (by omega)
  replace b2 := hm.blk b2 (by omega)
  replace b3 := hm.blk b3 (by omega)
  replace hB := hm.after hB hB.size (fun k hk => by omega)
  have b4 := b4e
  clear hm b4e
  have hr := HR.out
  have e3 : (r.verb == 3) = false := by rw [hr]; rfl
  have e4 : (r.verb == 4) = false := by rw [hr]; rfl
  have e5 : (r.verb == 5) = true := by rw [hr]; rfl
  have e6 : (r.verb == 6) = false := by rw [hr]; rfl
  have e7 : (r.verb == 7) = false := by rw [hr]; rfl
  have e8 : (r.verb == 8) = false := by rw [hr]; rfl
  have e9 : (r.verb == 9) = false := by rw [hr]; rfl
  have e10 : (r.verb == 10) = false := by rw [hr]; rfl
  have e11 : (r.verb == 11) = false := by rw [hr]; rfl
  have e12 : (r.verb == 12) = false := by rw [hr]; rfl
  have c50 : w_e.cell? ⟨w.heap.size, 0, none⟩ = some (.int .i64 r.verb) := blk_cell b1 0
  clear hr HR
  go_wp2
  clear e3 e4 e5 e6 e7 e8 e9 e10 e11 e12 c50
  obtain ⟨W2, hW2⟩ : ∃ W2, W2 = w_e := ⟨_, rfl⟩
  rw [← hW2] at b1 b2 b3 b4 hB ⊢
  clear hW2
  refine Ev.region_ev (Ev.Two W2 (w.heap.size + 1 + 1) (w.heap.size + 1 + 1 + 1) 32 38 A0 (ans 2 0 ⟨#[]⟩) (fresh r e now ver).c (fresh r e now ver).c 2 3) (by kernel_rfl) (by kernel_rfl) (Ev.two_start b3 b4) ?_
  refine Ev.ev_step (v := .agg (ans 2 0 ⟨#[]⟩)) rfl rfl (Ev.two_call (by decide) (by decide) 41 #[.int .i64 2] (fun _ => by first | (go_simp; done) | (go_simp; rfl)) (fun w => refSay_calls 2 w)) ?_
  simp only [Act.put, List.setIfInBounds_toArray, List.set_cons_succ, List.set_cons_zero]
  refine Ev.ev_step (v := .agg (fresh r e now ver).c) rfl rfl (Ev.two_load2 (by decide) (by decide) 38 (.tmp 11) rfl rfl _ rfl Tryd.underlying38 rfl (by kernel_rfl)) ?_
  simp only [Act.put, List.setIfInBounds_toArray, List.set_cons_succ, List.set_cons_zero]
  refine Ev.ev_step (v := undef) rfl rfl (Ev.two_store1 (by decide) (by omega) 32 (.tmp 10) (.tmp 43) rfl rfl rfl rfl (by kernel_rfl) (ans_one _ _ _)) ?_
  simp only [Act.put]
  refine Ev.ev_step (v := undef) rfl rfl (Ev.two_store2 (by decide) (by omega) 38 (.tmp 11) (.tmp 44) rfl rfl rfl rfl (by kernel_rfl) (ent_one _)) ?_
  simp only [Act.put]
  refine Ev.ev_step (v := .bool true) rfl rfl (Ev.two_pure (by decide) (by decide) (fun _ => by rfl)) ?_
  simp only [Act.put, List.setIfInBounds_toArray, List.set_cons_succ, List.set_cons_zero]
  refine Ev.ev_step (v := .bool false) rfl rfl (Ev.two_pure (by decide) (by decide) (fun _ => by rfl)) ?_
  simp only [Act.put, List.setIfInBounds_toArray, List.set_cons_succ, List.set_cons_zero]
  refine Ev.ev_nil (fun w_e hw_e => ?_)
  obtain ⟨hM_e, hA_e, hX_e⟩ := Ev.two_end hw_e (by decide) (by decide)
  clear hw_e
  go_wp2
  refine bodyPost_ret (Ev.results_c3 rfl rfl hA_e Tryd.underlying32 rfl (by kernel_rfl) rfl hX_e Tryd.underlying38 rfl (by kernel_rfl) rfl rfl) rfl ⟨rfl, ?_⟩
  exact Mod.after hB hB.size hM_e (fun k hk => by omega)
set_option maxHeartbeats 4000000 in
set_option maxRecDepth 100000 in
theorem rnext_rep_no (r : Rq) (kv : Value) (e : Ent) (now ver : Int) (w : World) (hr : r.verb = 5) :
    Calls Tryd.prog 18 #[.agg (r.c kv), .agg e.c, .bool false, .int .i64 now, .int .i64 ver] w fun e_ w' => e_ = .returned (.tuple #[.agg (ans 3 0 ⟨#[]⟩), .agg (fresh r e now ver).c, .bool false, .bool false]) ∧ Below w.heap.size w w' := by
  have HR := Aside0.mk hr
  clear hr
  simp only [Rq.c, Ent.c]
  go_enter Tryd.func18, Tryd.ntmps18
  go_wp2
  obtain ⟨W, hW⟩ : ∃ W, W = (((w.alloc (.cells (r.c kv) 27)).alloc (.cells e.c 38)).alloc (.cells A0 32)).alloc (.cells E0 38) := ⟨_, rfl⟩
  obtain ⟨b1, b2, b3, b4, hB⟩ := four w (.cells (r.c kv) 27) (.cells e.c 38) (.cells A0 32) (.cells E0 38)
  change Code.wp _ _ _ _ ((((w.alloc (.cells (r.c kv) 27)).alloc (.cells e.c 38)).alloc (.cells A0 32)).alloc (.cells E0 38))
  rw [← hW] at b1 b2 b3 b4 hB ⊢
  clear hW
  have c60 : W.cell? ⟨w.heap.size + 1, 0, none⟩ = some (.string e.key) := blk_cell b2 0
  have c52 : W.cell? ⟨w.heap.size, 2, none⟩ = some (.int .i64 r.fl) := blk_cell b1 2
  have c53 : W.cell? ⟨w.heap.size, 3, none⟩ = some (.int .i64 r.exp) := blk_cell b1 3
  have c58 : W.cell? ⟨w.heap.size, 8, none⟩ = some (.string r.data) := blk_cell b1 8
  refine Ev.region_ev (Gen W (w.heap.size + 1 + 1 + 1) 38 (freshAt (fresh r e now ver).c)) (by kernel_rfl) (by kernel_rfl) (gen_start b4 (by unfold freshAt; rw [no_bit]; rfl)) ?_
  refine Ev.ev_step (v := .pointer (some ⟨(w.heap.size + 1), 0, none⟩)) rfl rfl (gen_pure (freshAt_other _ (by decide)) (fun _ => by first | rfl | (go_simp; done) | (go_simp; rfl))) ?_
  simp only [Act.put, List.setIfInBounds_toArray, List.set_cons_succ, List.set_cons_zero]
  refine Ev.ev_step (v := .string e.key) rfl rfl (gen_load (freshAt_other _ (by decide)) ⟨(w.heap.size + 1), 0, none⟩ (c60) (show (w.heap.size + 1) ≠ (w.heap.size + 1 + 1 + 1) by omega) (fun w hc => by go_simp)) ?_
  simp only [Act.put, List.setIfInBounds_toArray, List.set_cons_succ, List.set_cons_zero]
  refine Ev.ev_step (v := .pointer (some ⟨w.heap.size, 2, none⟩)) rfl rfl (gen_pure (freshAt_other _ (by decide)) (fun _ => by first | rfl | (go_simp; done) | (go_simp; rfl))) ?_
  simp only [Act.put, List.setIfInBounds_toArray, List.set_cons_succ, List.set_cons_zero]
  refine Ev.ev_step (v := .int .i64 r.fl) rfl rfl (gen_load (freshAt_other _ (by decide)) ⟨w.heap.size, 2, none⟩ (c52) (show w.heap.size ≠ (w.heap.size + 1 + 1 + 1) by omega) (fun w hc => by go_simp)) ?_
  simp only [Act.put, List.setIfInBounds_toArray, List.set_cons_succ, List.set_cons_zero]
  refine Ev.ev_step (v := .pointer (some ⟨w.heap.size, 3, none⟩)) rfl rfl (gen_pure (freshAt_other _ (by decide)) (fun _ => by first | rfl | (go_simp; done) | (go_simp; rfl))) ?_
  simp only [Act.put, List.setIfInBounds_toArray, List.set_cons_succ, List.set_cons_zero]
  refine Ev.ev_step (v := .int .i64 r.exp) rfl rfl (gen_load (freshAt_other _ (by decide)) ⟨w.heap.size, 3, none⟩ (c53) (show w.heap.size ≠ (w.heap.size + 1 + 1 + 1) by omega) (fun w hc => by go_simp)) ?_
  simp only [Act.put, List.setIfInBounds_toArray, List.set_cons_succ, List.set_cons_zero]
  refine Ev.ev_step (v := .int .i64 now) rfl rfl (gen_pure (freshAt_other _ (by decide)) (fun _ => by first | rfl | (go_simp; done) | (go_simp; rfl))) ?_
  simp only [Act.put, List.setIfInBounds_toArray, List.set_cons_succ, List.set_cons_zero]
  refine Ev.ev_step (v := .int .i64 (dead r.exp now)) rfl rfl (gen_call (freshAt_other _ (by decide)) 40 #[.int .i64 r.exp, .int .i64 now] (fun _ => by first | (go_simp; done) | (go_simp; rfl)) (fun w => refDead_calls _ _ w)) ?_
  simp only [Act.put, List.setIfInBounds_toArray, List.set_cons_succ, List.set_cons_zero]
  refine Ev.ev_step (v := .pointer (some ⟨w.heap.size, 8, none⟩)) rfl rfl (gen_pure (freshAt_other _ (by decide)) (fun _ => by first | rfl | (go_simp; done) | (go_simp; rfl))) ?_
  simp only [Act.put, List.setIfInBounds_toArray, List.set_cons_succ, List.set_cons_zero]
  refine Ev.ev_step (v := .string r.data) rfl rfl (gen_load (freshAt_other _ (by decide)) ⟨w.heap.size, 8, none⟩ (c58) (show w.heap.size ≠ (w.heap.size + 1 + 1 + 1) by omega) (fun w hc => by go_simp)) ?_
  simp only [Act.put, List.setIfInBounds_toArray, List.set_cons_succ, List.set_cons_zero]
  refine Ev.ev_step (v := .int .i64 ver) rfl rfl (gen_pure (freshAt_other _ (by decide)) (fun _ => by first | rfl | (go_simp; done) | (go_simp; rfl))) ?_
  simp only [Act.put, List.setIfInBounds_toArray, List.set_cons_succ, List.set_cons_zero]
  refine Ev.ev_step (v := .agg (fresh r e now ver).c) rfl rfl (gen_pure (freshAt_other _ (by decide)) (fun _ => by first | rfl | (go_simp; done) | (go_simp; rfl))) ?_
  simp only [Act.put, List.setIfInBounds_toArray, List.set_cons_succ, List.set_cons_zero]
  refine Ev.ev_step (v := undef) rfl rfl (gen_store (fresh r e now ver).c (fun S h => by unfold freshAt; rw [Ev.set_same h, if_pos rfl]) (fun S => by unfold freshAt; split <;> rfl) 38 (.tmp 11) (.tmp 26) rfl rfl rfl (by kernel_rfl) (ent_one _)) ?_
  simp only [Act.put]
  refine Ev.ev_nil (fun w_e hw_e => ?_)
  have hm := hw_e.mod
  have b4e := hw_e.blk
  rw [show freshAt (fresh r e now ver).c (Array.replicate _ true) = (fresh r e now ver).c by unfold freshAt; rw [all_bit (by decide), if_pos rfl]] at b4e
  clear hw_e c60 c52 c53 c58 b4
  replace b1 := hm.blk b1 (by omega)
  replace b2 := hm.blk b2 (by omega)
  replace b3 := hm.blk b3 (by omega)
  replace hB := hm.after hB hB.size (fun k hk => by omega)
  have b4 := b4e
  clear hm b4e
  have hr := HR.out
  have e3 : (r.verb == 3) = false := by rw [hr]; rfl
  have e4 : (r.verb == 4) = false := by rw [hr]; rfl
  have e5 : (r.verb == 5) = true := by rw [hr]; rfl
  have e6 : (r.verb == 6) = false := by rw [hr]; rfl
  have e7 : (r.verb == 7) = false := by rw [hr]; rfl
  have e8 : (r.verb == 8) = false := by rw [hr]; rfl
  have e9 : (r.verb == 9) = false := by rw [hr]; rfl
  have e10 : (r.verb == 10) = false := by rw [hr]; rfl
  have e11 : (r.verb == 11) = false := by rw [hr]; rfl
  have e12 : (r.verb == 12) = false := by rw [hr]; rfl
  have c50 : w_e.cell? ⟨w.heap.size, 0, none⟩ = some (.int .i64 r.verb) := blk_cell b1 0
  clear hr HR
  go_wp2
  clear e3 e4 e5 e6 e7 e8 e9 e10 e11 e12 c50
  obtain ⟨W2, hW2⟩ : ∃ W2, W2 = w_e := ⟨_, rfl⟩
  rw [← hW2] at b1 b2 b3 b4 hB ⊢
  clear hW2
  refine Ev.region_ev (Ev.Two W2 (w.heap.size + 1 + 1) (w.heap.size + 1 + 1 + 1) 32 38 A0 (ans 3 0 ⟨#[]⟩) (fresh r e now ver).c (fresh r e now ver).c 2 3) (by kernel_rfl) (by kernel_rfl) (Ev.two_start b3 b4) ?_
  refine Ev.ev_step (v := .agg (ans 3 0 ⟨#[]⟩)) rfl rfl (Ev.two_call (by decide) (by decide) 41 #[.int .i64 3] (fun _ => by first | (go_simp; done) | (go_simp; rfl)) (fun w => refSay_calls 3 w)) ?_
  simp only [Act.put, List.setIfInBounds_toArray, List.set_cons_succ, List.set_cons_zero]
  refine Ev.ev_step (v := .agg (fresh r e now ver).c) rfl rfl (Ev.two_load2 (by decide) (by decide) 38 (.tmp 11) rfl rfl _ rfl Tryd.underlying38 rfl (by kernel_rfl)) ?_
  simp only [Act.put, List.setIfInBounds_toArray, List.set_cons_succ, List.set_cons_zero]
  refine Ev.ev_step (v := undef) rfl rfl (Ev.two_store1 (by decide) (by omega) 32 (.tmp 10) (.tmp 41) rfl rfl rfl rfl (by kernel_rfl) (ans_one _ _ _)) ?_
  simp only [Act.put]
  refine Ev.ev_step (v := undef) rfl rfl (Ev.two_store2 (by decide) (by omega) 38 (.tmp 11) (.tmp 42) rfl rfl rfl rfl (by kernel_rfl) (ent_one _)) ?_
  simp only [Act.put]
  refine Ev.ev_step (v := .bool false) rfl rfl (Ev.two_pure (by decide) (by decide) (fun _ => by rfl)) ?_
  simp only [Act.put, List.setIfInBounds_toArray, List.set_cons_succ, List.set_cons_zero]
  refine Ev.ev_step (v := .bool false) rfl rfl (Ev.two_pure (by decide) (by decide) (fun _ => by rfl)) ?_
  simp only [Act.put, List.setIfInBounds_toArray, List.set_cons_succ, List.set_cons_zero]
  refine Ev.ev_nil (fun w_e hw_e => ?_)
  obtain ⟨hM_e, hA_e, hX_e⟩ := Ev.two_end hw_e (by decide) (by decide)
  clear hw_e
  go_wp2
  refine bodyPost_ret (Ev.results_c3 rfl rfl hA_e Tryd.underlying32 rfl (by kernel_rfl) rfl hX_e Tryd.underlying38 rfl (by kernel_rfl) rfl rfl) rfl ⟨rfl, ?_⟩
  exact Mod.after hB hB.size hM_e (fun k hk => by omega)
set_option maxHeartbeats 4000000 in
set_option maxRecDepth 100000 in
theorem rnext_app_no (r : Rq) (kv : Value) (e : Ent) (now ver : Int) (w : World) (hr : r.verb = 6) :
    Calls Tryd.prog 18 #[.agg (r.c kv), .agg e.c, .bool false, .int .i64 now, .int .i64 ver] w fun e_ w' => e_ = .returned (.tuple #[.agg (ans 3 0 ⟨#[]⟩), .agg (fresh r e now ver).c, .bool false, .bool false]) ∧ Below w.heap.size w w' := by
  have HR := Aside0.mk hr
  clear hr
  simp only [Rq.c, Ent.c]
  go_enter Tryd.func18, Tryd.ntmps18
  go_wp2
  obtain ⟨W, hW⟩ : ∃ W, W = (((w.alloc (.cells (r.c kv) 27)).alloc (.cells e.c 38)).alloc (.cells A0 32)).alloc (.cells E0 38) := ⟨_, rfl⟩
  obtain ⟨b1, b2, b3, b4, hB⟩ := four w (.cells (r.c kv) 27) (.cells e.c 38) (.cells A0 32) (.cells E0 38)
  change Code.wp _ _ _ _ ((((w.alloc (.cells (r.c kv) 27)).alloc (.cells e.c 38)).alloc (.cells A0 32)).alloc (.cells E0 38))
  rw [← hW] at b1 b2 b3 b4 hB ⊢
  clear hW
  have c60 : W.cell? ⟨w.heap.size + 1, 0, none⟩ = some (.string e.key) := blk_cell b2 0
  have c52 : W.cell? ⟨w.heap.size, 2, none⟩ = some (.int .i64 r.fl) := blk_cell b1 2
  have c53 : W.cell? ⟨w.heap.size, 3, none⟩ = some (.int .i64 r.exp) := blk_cell b1 3
  have c58 : W.cell? ⟨w.heap.size, 8, none⟩ = some (.string r.data) := blk_cell b1 8
  refine Ev.region_ev (Gen W (w.heap.size + 1 + 1 + 1) 38 (freshAt (fresh r e now ver).c)) (by kernel_rfl) (by kernel_rfl) (gen_start b4 (by unfold freshAt; rw [no_bit]; rfl)) ?_
  refine Ev.ev_step (v := .pointer (some ⟨(w.heap.size + 1), 0, none⟩)) rfl rfl (gen_pure (freshAt_other _ (by decide)) (fun _ => by first | rfl | (go_simp; done) | (go_simp; rfl))) ?_
  simp only [Act.put, List.setIfInBounds_toArray, List.set_cons_succ, List.set_cons_zero]
  refine Ev.ev_step (v := .string e.key) rfl rfl (gen_load (freshAt_other _ (by decide)) ⟨(w.heap.size + 1), 0, none⟩ (c60) (show (w.heap.size + 1) ≠ (w.heap.size + 1 + 1 + 1) by omega) (fun w hc => by go_simp)) ?_
  simp only [Act.put, List.setIfInBounds_toArray, List.set_cons_succ, List.set_cons_zero]
  refine Ev.ev_step (v := .pointer (some ⟨w.heap.size, 2, none⟩)) rfl rfl (gen_pure (freshAt_other _ (by decide)) (fun _ => by first | rfl | (go_simp; done) | (go_simp; rfl))) ?_
  simp only [Act.put, List.setIfInBounds_toArray, List.set_cons_succ, List.set_cons_zero]
  refine Ev.ev_step (v := .int .i64 r.fl) rfl rfl (gen_load (freshAt_other _ (by decide)) ⟨w.heap.size, 2, none⟩ (c52) (show w.heap.size ≠ (w.heap.size + 1 + 1 + 1) by omega) (fun w hc => by go_simp)) ?_
  simp only [Act.put, List.setIfInBounds_toArray, List.set_cons_succ, List.set_cons_zero]
  refine Ev.ev_step (v := .pointer (some ⟨w.heap.size, 3, none⟩)) rfl rfl (gen_pure (freshAt_other _ (by decide)) (fun _ => by first | rfl | (go_simp; done) | (go_simp; rfl))) ?_
  simp only [Act.put, List.setIfInBounds_toArray, List.set_cons_succ, List.set_cons_zero]
  refine Ev.ev_step (v := .int .i64 r.exp) rfl rfl (gen_load (freshAt_other _ (by decide)) ⟨w.heap.size, 3, none⟩ (c53) (show w.heap.size ≠ (w.heap.size + 1 + 1 + 1) by omega) (fun w hc => by go_simp)) ?_
  simp only [Act.put, List.setIfInBounds_toArray, List.set_cons_succ, List.set_cons_zero]
  refine Ev.ev_step (v := .int .i64 now) rfl rfl (gen_pure (freshAt_other _ (by decide)) (fun _ => by first | rfl | (go_simp; done) | (go_simp; rfl))) ?_
  simp only [Act.put, List.setIfInBounds_toArray, List.set_cons_succ, List.set_cons_zero]
  refine Ev.ev_step (v := .int .i64 (dead r.exp now)) rfl rfl (gen_call (freshAt_other _ (by decide)) 40 #[.int .i64 r.exp, .int .i64 now] (fun _ => by first | (go_simp; done) | (go_simp; rfl)) (fun w => refDead_calls _ _ w)) ?_
  simp only [Act.put, List.setIfInBounds_toArray, List.set_cons_succ, List.set_cons_zero]
  refine Ev.ev_step (v := .pointer (some ⟨w.heap.size, 8, none⟩)) rfl rfl (gen_pure (freshAt_other _ (by decide)) (fun _ => by first | rfl | (go_simp; done) | (go_simp; rfl))) ?_
  simp only [Act.put, List.setIfInBounds_toArray, List.set_cons_succ, List.set_cons_zero]
  refine Ev.ev_step (v := .string r.data) rfl rfl (gen_load (freshAt_other _ (by decide)) ⟨w.heap.size, 8, none⟩ (c58) (show w.heap.size ≠ (w.heap.size + 1 + 1 + 1) by omega) (fun w hc => by go_simp)) ?_
  simp only [Act.put, List.setIfInBounds_toArray, List.set_cons_succ, List.set_cons_zero]
  refine Ev.ev_step (v := .int .i64 ver) rfl rfl (gen_pure (freshAt_other _ (by decide)) (fun _ => by first | rfl | (go_simp; done) | (go_simp; rfl))) ?_
  simp only [Act.put, List.setIfInBounds_toArray, List.set_cons_succ, List.set_cons_zero]
  refine Ev.ev_step (v := .agg (fresh r e now ver).c) rfl rfl (gen_pure (freshAt_other _ (by decide)) (fun _ => by first | rfl | (go_simp; done) | (go_simp; rfl))) ?_
  simp only [Act.put, List.setIfInBounds_toArray, List.set_cons_succ, List.set_cons_zero]
  refine Ev.ev_step (v := undef) rfl rfl (gen_store (fresh r e now ver).c (fun S h => by unfold freshAt; rw [Ev.set_same h, if_pos rfl]) (fun S => by unfold freshAt; split <;> rfl) 38 (.tmp 11) (.tmp 26) rfl rfl rfl (by kernel_rfl) (ent_one _)) ?_
  simp only [Act.put]
  refine Ev.ev_nil (fun w_e hw_e => ?_)
  have hm := hw_e.mod
  have b4e := hw_e.blk
  rw [show freshAt (fresh r e now ver).c (Array.replicate _ true) = (fresh r e now ver).c by unfold freshAt; rw [all_bit (by decide), if_pos rfl]] at b4e
  clear hw_e c60 c52 c53 c58 b4
  replace b1 := hm.blk b1 (by omega)
  replace b2 := hm.blk b2 (by omega)
  replace b3 := hm.blk b3 (by omega)
  replace hB := hm.after hB hB.size (fun k hk => by omega)
  have b4 := b4e
  clear hm b4e
  have hr := HR.out
  have e3 : (r.verb == 3) = false := by rw [hr]; rfl
  have e4 : (r.verb == 4) = false := by rw [hr]; rfl
  have e5 : (r.verb == 5) = false := by rw [hr]; rfl
  have e6 : (r.verb == 6) = true := by rw [hr]; rfl
  have e7 : (r.verb == 7) = false := by rw [hr]; rfl
  have e8 : (r.verb == 8) = false := by rw [hr]; rfl
  have e9 : (r.verb == 9) = false := by rw [hr]; rfl
  have e10 : (r.verb == 10) = false := by rw [hr]; rfl
  have e11 : (r.verb == 11) = false := by rw [hr]; rfl
  have e12 : (r.verb == 12) = false := by rw [hr]; rfl
  have c50 : w_e.cell? ⟨w.heap.size, 0, none⟩ = some (.int .i64 r.verb) := blk_cell b1 0
  clear hr HR
  go_wp2
  clear e3 e4 e5 e6 e7 e8 e9 e10 e11 e12 c50
  obtain ⟨W2, hW2⟩ : ∃ W2, W2 = w_e := ⟨_, rfl⟩
  rw [← hW2] at b1 b2 b3 b4 hB ⊢
  clear hW2
  refine Ev.region_ev (Ev.Two W2 (w.heap.size + 1 + 1) (w.heap.size + 1 + 1 + 1) 32 38 A0 (ans 3 0 ⟨#[]⟩) (fresh r e now ver).c (fresh r e now ver).c 2 3) (by kernel_rfl) (by kernel_rfl) (Ev.two_start b3 b4) ?_
  refine Ev.ev_step (v := .agg (ans 3 0 ⟨#[]⟩)) rfl rfl (Ev.two_call (by decide) (by decide) 41 #[.int .i64 3] (fun _ => by first | (go_simp; done) | (go_simp; rfl)) (fun w => refSay_calls 3 w)) ?_
  simp only [Act.put, List.setIfInBounds_toArray, List.set_cons_succ, List.set_cons_zero]
  refine Ev.ev_step (v := .agg (fresh r e now ver).c) rfl rfl (Ev.two_load2 (by decide) (by decide) 38 (.tmp 11) rfl rfl _ rfl Tryd.underlying38 rfl (by kernel_rfl)) ?_
  simp only [Act.put, List.setIfInBounds_toArray, List.set_cons_succ, List.set_cons_zero]
  refine Ev.ev_step (v := undef) rfl rfl (Ev.two_store1 (by decide) (by omega) 32 (.tmp 10) (.tmp 50) rfl rfl rfl rfl (by kernel_rfl) (ans_one _ _ _)) ?_
  simp only [Act.put]
  refine Ev.ev_step (v := undef) rfl rfl (Ev.two_store2 (by decide) (by omega) 38 (.tmp 11) (.tmp 51) rfl rfl rfl rfl (by kernel_rfl) (ent_one _)) ?_
  simp only [Act.put]
  refine Ev.ev_step (v := .bool false) rfl rfl (Ev.two_pure (by decide) (by decide) (fun _ => by rfl)) ?_
  simp only [Act.put, List.setIfInBounds_toArray, List.set_cons_succ, List.set_cons_zero]
  refine Ev.ev_step (v := .bool false) rfl rfl (Ev.two_pure (by decide) (by decide) (fun _ => by rfl)) ?_
  simp only [Act.put, List.setIfInBounds_toArray, List.set_cons_succ, List.set_cons_zero]
  refine Ev.ev_nil (fun w_e hw_e => ?_)
  obtain ⟨hM_e, hA_e, hX_e⟩ := Ev.two_end hw_e (by decide) (by decide)
  clear hw_e
  go_wp2
  refine bodyPost_ret (Ev.results_c3 rfl rfl hA_e Tryd.underlying32 rfl (by kernel_rfl) rfl hX_e Tryd.underlying38 rfl (by kernel_rfl) rfl rfl) rfl ⟨rfl, ?_⟩
  exact Mod.after hB hB.size hM_e (fun k hk => by omega)
set_option maxHeartbeats 4000000 in
set_option maxRecDepth 100000 in
theorem rnext_pre_no (r : Rq) (kv : Value) (e : Ent) (now ver : Int) (w : World) (hr : r.verb = 7) :
    Calls Tryd.prog 18 #[.agg (r.c kv), .agg e.c, .bool false, .int .i64 now, .int .i64 ver] w fun e_ w' => e_ = .returned (.tuple #[.agg (ans 3 0 ⟨#[]⟩), .agg (fresh r e now ver).c, .bool false, .bool false]) ∧ Below w.heap.size w w' := by
  have HR := Aside0.mk hr
  clear hr
  simp only [Rq.c, Ent.c]
  go_enter Tryd.func18, Tryd.ntmps18
  go_wp2
  obtain ⟨W, hW⟩ : ∃ W, W = (((w.alloc (.cells (r.c kv) 27)).alloc (.cells e.c 38)).alloc (.cells A0 32)).alloc (.cells E0 38) := ⟨_, rfl⟩
  obtain ⟨b1, b2, b3, b4, hB⟩ := four w (.cells (r.c kv) 27) (.cells e.c 38) (.cells A0 32) (.cells E0 38)
  change Code.wp _ _ _ _ ((((w.alloc (.cells (r.c kv) 27)).alloc (.cells e.c 38)).alloc (.cells A0 32)).alloc (.cells E0 38))
  rw [← hW] at b1 b2 b3 b4 hB ⊢
  clear hW
  have c60 : W.cell? ⟨w.heap.size + 1, 0, none⟩ = some (.string e.key) := blk_cell b2 0
  have c52 : W.cell? ⟨w.heap.size, 2, none⟩ = some (.int .i64 r.fl) := blk_cell b1 2
  have c53 : W.cell? ⟨w.heap.size, 3, none⟩ = some (.int .i64 r.exp) := blk_cell b1 3
  have c58 : W.cell? ⟨w.heap.size, 8, none⟩ = some (.string r.data) := blk_cell b1 8
  refine Ev.region_ev (Gen W (w.heap.size + 1 + 1 + 1) 38 (freshAt (fresh r e now ver).c)) (by kernel_rfl) (by kernel_rfl) (gen_start b4 (by unfold freshAt; rw [no_bit]; rfl)) ?_
  refine Ev.ev_step (v := .pointer (some ⟨(w.heap.size + 1), 0, none⟩)) rfl rfl (gen_pure (freshAt_other _ (by decide)) (fun _ => by first | rfl | (go_simp; done) | (go_simp; rfl))) ?_
  simp only [Act.put, List.setIfInBounds_toArray, List.set_cons_succ, List.set_cons_zero]
  refine Ev.ev_step (v := .string e.key) rfl rfl (gen_load (freshAt_other _ (by decide)) ⟨(w.heap.size + 1), 0, none⟩ (c60) (show (w.heap.size + 1) ≠ (w.heap.size + 1 + 1 + 1) by omega) (fun w hc => by go_simp)) ?_
  simp only [Act.put, List.setIfInBounds_toArray, List.set_cons_succ, List.set_cons_zero]
  refine Ev.ev_step (v := .pointer (some ⟨w.heap.size, 2, none⟩)) rfl rfl (gen_pure (freshAt_other _ (by decide)) (fun _ => by first | rfl | (go_simp; done) | (go_simp; rfl))) ?_
  simp only [Act.put, List.setIfInBounds_toArray, List.set_cons_succ, List.set_cons_zero]
  refine Ev.ev_step (v := .int .i64 r.fl) rfl rfl (gen_load (freshAt_other _ (by decide)) ⟨w.heap.size, 2, none⟩ (c52) (show w.heap.size ≠ (w.heap.size + 1 + 1 + 1) by omega) (fun w hc => by go_simp)) ?_
  simp only [Act.put, List.setIfInBounds_toArray, List.set_cons_succ, List.set_cons_zero]
  refine Ev.ev_step (v := .pointer (some ⟨w.heap.size, 3, none⟩)) rfl rfl (gen_pure (freshAt_other _ (by decide)) (fun _ => by first | rfl | (go_simp; done) | (go_simp; rfl))) ?_
  simp only [Act.put, List.setIfInBounds_toArray, List.set_cons_succ, List.set_cons_zero]
  refine Ev.ev_step (v := .int .i64 r.exp) rfl rfl (gen_load (freshAt_other _ (by decide)) ⟨w.heap.size, 3, none⟩ (c53) (show w.heap.size ≠ (w.heap.size + 1 + 1 + 1) by omega) (fun w hc => by go_simp)) ?_
  simp only [Act.put, List.setIfInBounds_toArray, List.set_cons_succ, List.set_cons_zero]
  refine Ev.ev_step (v := .int .i64 now) rfl rfl (gen_pure (freshAt_other _ (by decide)) (fun _ => by first | rfl | (go_simp; done) | (go_simp; rfl))) ?_
  simp only [Act.put, List.setIfInBounds_toArray, List.set_cons_succ, List.set_cons_zero]
  refine Ev.ev_step (v := .int .i64 (dead r.exp now)) rfl rfl (gen_call (freshAt_other _ (by decide)) 40 #[.int .i64 r.exp, .int .i64 now] (fun _ => by first | (go_simp; done) | (go_simp; rfl)) (fun w => refDead_calls _ _ w)) ?_
  simp only [Act.put, List.setIfInBounds_toArray, List.set_cons_succ, List.set_cons_zero]
  refine Ev.ev_step (v := .pointer (some ⟨w.heap.size, 8, none⟩)) rfl rfl (gen_pure (freshAt_other _ (by decide)) (fun _ => by first | rfl | (go_simp; done) | (go_simp; rfl))) ?_
  simp only [Act.put, List.setIfInBounds_toArray, List.set_cons_succ, List.set_cons_zero]
  refine Ev.ev_step (v := .string r.data) rfl rfl (gen_load (freshAt_other _ (by decide)) ⟨w.heap.size, 8, none⟩ (c58) (show w.heap.size ≠ (w.heap.size + 1 + 1 + 1) by omega) (fun w hc => by go_simp)) ?_
  simp only [Act.put, List.setIfInBounds_toArray, List.set_cons_succ, List.set_cons_zero]
  refine Ev.ev_step (v := .int .i64 ver) rfl rfl (gen_pure (freshAt_other _ (by decide)) (fun _ => by first | rfl | (go_simp; done) | (go_simp; rfl))) ?_
  simp only [Act.put, List.setIfInBounds_toArray, List.set_cons_succ, List.set_cons_zero]
  refine Ev.ev_step (v := .agg (fresh r e now ver).c) rfl rfl (gen_pure (freshAt_other _ (by decide)) (fun _ => by first | rfl | (go_simp; done) | (go_simp; rfl))) ?_
  simp only [Act.put, List.setIfInBounds_toArray, List.set_cons_succ, List.set_cons_zero]
  refine Ev.ev_step (v := undef) rfl rfl (gen_store (fresh r e now ver).c (fun S h => by unfold freshAt; rw [Ev.set_same h, if_pos rfl]) (fun S => by unfold freshAt; split <;> rfl) 38 (.tmp 11) (.tmp 26) rfl rfl rfl (by kernel_rfl) (ent_one _)) ?_
  simp only [Act.put]
  refine Ev.ev_nil (fun w_e hw_e => ?_)
  have hm := hw_e.mod
  have b4e := hw_e.blk
  rw [show freshAt (fresh r e now ver).c (Array.replicate _ true) = (fresh r e now ver).c by unfold freshAt; rw [all_bit (by decide), if_pos rfl]] at b4e
  clear hw_e c60 c52 c53 c58 b4
  replace b1 := hm.blk b1 (by omega)
  replace b2 := hm.blk b2 (by omega)
  replace b3 := hm.blk b3 (by omega)
  replace hB := hm.after hB hB.size (fun k hk => by omega)
  have b4 := b4e
  clear hm b4e
  have hr := HR.out
  have e3 : (r.verb == 3) = false := by rw [hr]; rfl
  have e4 : (r.verb == 4) = false := by rw [hr]; rfl
  have e5 : (r.verb == 5) = false := by rw [hr]; rfl
  have e6 : (r.verb == 6) = false := by rw [hr]; rfl
  have e7 : (r.verb == 7) = true := by rw [hr]; rfl
  have e8 : (r.verb == 8) = false := by rw [hr]; rfl
  have e9 : (r.verb == 9) = false := by rw [hr]; rfl
  have e10 : (r.verb == 10) = false := by rw [hr]; rfl
  have e11 : (r.verb == 11) = false := by rw [hr]; rfl
  have e12 : (r.verb == 12) = false := by rw [hr]; rfl
  have c50 : w_e.cell? ⟨w.heap.size, 0, none⟩ = some (.int .i64 r.verb) := blk_cell b1 0
  clear hr HR
  go_wp2
  clear e3 e4 e5 e6 e7 e8 e9 e10 e11 e12 c50
  obtain ⟨W2, hW2⟩ : ∃ W2, W2 = w_e := ⟨_, rfl⟩
  rw [← hW2] at b1 b2 b3 b4 hB ⊢
  clear hW2
  refine Ev.region_ev (Ev.Two W2 (w.heap.size + 1 + 1) (w.heap.size + 1 + 1 + 1) 32 38 A0 (ans 3 0 ⟨#[]⟩) (fresh r e now ver).c (fresh r e now ver).c 2 3) (by kernel_rfl) (by kernel_rfl) (Ev.two_start b3 b4) ?_
  refine Ev.ev_step (v := .agg (ans 3 0 ⟨#[]⟩)) rfl rfl (Ev.two_call (by decide) (by decide) 41 #[.int .i64 3] (fun _ => by first | (go_simp; done) | (go_simp; rfl)) (fun w => refSay_calls 3 w)) ?_
  simp only [Act.put, List.setIfInBounds_toArray, List.set_cons_succ, List.set_cons_zero]
  refine Ev.ev_step (v := .agg (fresh r e now ver).c) rfl rfl (Ev.two_load2 (by decide) (by decide) 38 (.tmp 11) rfl rfl _ rfl Tryd.underlying38 rfl (by kernel_rfl)) ?_
  simp only [Act.put, List.setIfInBounds_toArray, List.set_cons_succ, List.set_cons_zero]
  refine Ev.ev_step (v := undef) rfl rfl (Ev.two_store1 (by decide) (by omega) 32 (.tmp 10) (.tmp 50) rfl rfl rfl rfl (by kernel_rfl) (ans_one _ _ _)) ?_
  simp only [Act.put]
  refine Ev.ev_step (v := undef) rfl rfl (Ev.two_store2 (by decide) (by omega) 38 (.tmp 11) (.tmp 51) rfl rfl rfl rfl (by kernel_rfl) (ent_one _)) ?_
  simp only [Act.put]
  refine Ev.ev_step (v := .bool false) rfl rfl (Ev.two_pure (by decide) (by decide) (fun _ => by rfl)) ?_
  simp only [Act.put, List.setIfInBounds_toArray, List.set_cons_succ, List.set_cons_zero]
  refine Ev.ev_step (v := .bool false) rfl rfl (Ev.two_pure (by decide) (by decide) (fun _ => by rfl)) ?_
  simp only [Act.put, List.setIfInBounds_toArray, List.set_cons_succ, List.set_cons_zero]
  refine Ev.ev_nil (fun w_e hw_e => ?_)
  obtain ⟨hM_e, hA_e, hX_e⟩ := Ev.two_end hw_e (by decide) (by decide)
  clear hw_e
  go_wp2
  refine bodyPost_ret (Ev.results_c3 rfl rfl hA_e Tryd.underlying32 rfl (by kernel_rfl) rfl hX_e Tryd.underlying38 rfl (by kernel_rfl) rfl rfl) rfl ⟨rfl, ?_⟩
  exact Mod.after hB hB.size hM_e (fun k hk => by omega)
end Go.Proofs.YtepklobkppdliaaDoor.Md
namespace Go.Proofs.YtepklobkppdliaaDoor.Md
open Go.RowKit Go.Proofs.YtepklobkppdliaaDoorW.PrintWords Go.Proofs.YtepklobkppdliaaDoorW.PrintLast Go.Proofs.YtepklobkppdliaaDoorW.PrintMore Go.Proofs.YtepklobkppdliaaDoor.Lib Go.Proofs.YtepklobkppdliaaDoor.Open
set_option maxHeartbeats 4000000 in
set_option maxRecDepth 100000 in
theorem rnext_cas_no (r : Rq) (kv : Value) (e : Ent) (now ver : Int) (w : World) (hr : r.verb = 8) :
    Calls Tryd.prog 18 #[.agg (r.c kv), .agg e.c, .bool false, .int .i64 now, .int .i64 ver] w fun e_ w' => e_ = .returned (.tuple #[.agg (ans 5 0 ⟨#[]⟩), .agg (fresh r e now ver).c, .bool false, .bool false]) ∧ Below w.heap.size w w' := by
  have HR := Aside0.mk hr
  clear hr
  simp only [Rq.c, Ent.c]
  go_enter Tryd.func18, Tryd.ntmps18
  go_wp2
  obtain ⟨W, hW⟩ : ∃ W, W = (((w.alloc (.cells (r.c kv) 27)).alloc (.cells e.c 38)).alloc (.cells A0 32)).alloc (.cells E0 38) := ⟨_, rfl⟩
  obtain ⟨b1, b2, b3, b4, hB⟩ := four w (.cells (r.c kv) 27) (.cells e.c 38) (.cells A0 32) (.cells E0 38)
  change Code.wp _ _ _ _ ((((w.alloc (.cells (r.c kv) 27)).alloc (.cells e.c 38)).alloc (.cells A0 32)).alloc (.cells E0 38))
  rw [← hW] at b1 b2 b3 b4 hB ⊢
  clear hW
  have c60 : W.cell? ⟨w.heap.size + 1, 0, none⟩ = some (.string e.key) := blk_cell b2 0
  have c52 : W.cell? ⟨w.heap.size, 2, none⟩ = some (.int .i64 r.fl) := blk_cell b1 2
  have c53 : W.cell? ⟨w.heap.size, 3, none⟩ = some (.int .i64 r.exp) := blk_cell b1 3
  have c58 : W.cell? ⟨w.heap.size, 8, none⟩ = some (.string r.data) := blk_cell b1 8
  refine Ev.region_ev (Gen W (w.heap.size + 1 + 1 + 1) 38 (freshAt (fresh r e now ver).c)) (by kernel_rfl) (by kernel_rfl) (gen_start b4 (by unfold freshAt; rw [no_bit]; rfl)) ?_
  refine Ev.ev_step (v := .pointer (some ⟨(w.heap.size + 1), 0, none⟩)) rfl rfl (gen_pure (freshAt_other _ (by decide)) (fun _ => by first | rfl | (go_simp; done) | (go_simp; rfl))) ?_
  simp only [Act.put, List.setIfInBounds_toArray, List.set_cons_succ, List.set_cons_zero]
  refine Ev.ev_step (v := .string e.key) rfl rfl (gen_load (freshAt_other _ (by decide)) ⟨(w.heap.size + 1), 0, none⟩ (c60) (show (w.heap.size + 1) ≠ (w.heap.size + 1 + 1 + 1) by omega) (fun w hc => by go_simp)) ?_
  simp only [Act.put, List.setIfInBounds_toArray, List.set_cons_succ, List.set_cons_zero]
  refine Ev.ev_step (v := .pointer (some ⟨w.heap.size, 2, none⟩)) rfl rfl (gen_pure (freshAt_other _ (by decide)) (fun _ => by first | rfl | (go_simp; done) | (go_simp; rfl))) ?_
  simp only [Act.put, List.setIfInBounds_toArray, List.set_cons_succ, List.set_cons_zero]
  refine Ev.ev_step (v := .int .i64 r.fl) rfl rfl (gen_load (freshAt_other _ (by decide)) ⟨w.heap.size, 2, none⟩ (c52) (show w.heap.size ≠ (w.heap.size + 1 + 1 + 1) by omega) (fun w hc => by go_simp)) ?_
  simp only [Act.put, List.setIfInBounds_toArray, List.set_cons_succ, List.set_cons_zero]
  refine Ev.ev_step (v := .pointer (some ⟨w.heap.size, 3, none⟩)) rfl rfl (gen_pure (freshAt_other _ (by decide)) (fun _ => by first | rfl | (go_simp; done) | (go_simp; rfl))) ?_
  simp only [Act.put, List.setIfInBounds_toArray, List.set_cons_succ, List.set_cons_zero]
  refine Ev.ev_step (v := .int .i64 r.exp) rfl rfl (gen_load (freshAt_other _ (by decide)) ⟨w.heap.size, 3, none⟩ (c53) (show w.heap.size ≠ (w.heap.size + 1 + 1 + 1) by omega) (fun w hc => by go_simp)) ?_
  simp only [Act.put, List.setIfInBounds_toArray, List.set_cons_succ, List.set_cons_zero]
  refine Ev.ev_step (v := .int .i64 now) rfl rfl (gen_pure (freshAt_other _ (by decide)) (fun _ => by first | rfl | (go_simp; done) | (go_simp; rfl))) ?_
  simp only [Act.put, List.setIfInBounds_toArray, List.set_cons_succ, List.set_cons_zero]
  refine Ev.ev_step (v := .int .i64 (dead r.exp now)) rfl rfl (gen_call (freshAt_other _ (by decide)) 40 #[.int .i64 r.exp, .int .i64 now] (fun _ => by first | (go_simp; done) | (go_simp; rfl)) (fun w => refDead_calls _ _ w)) ?_
  simp only [Act.put, List.setIfInBounds_toArray, List.set_cons_succ, List.set_cons_zero]
  refine Ev.ev_step (v := .pointer (some ⟨w.heap.size, 8, none⟩)) rfl rfl (gen_pure (freshAt_other _ (by decide)) (fun _ => by first | rfl | (go_simp; done) | (go_simp; rfl))) ?_
  simp only [Act.put, List.setIfInBounds_toArray, List.set_cons_succ, List.set_cons_zero]
  refine Ev.ev_step (v := .string r.data) rfl rfl (gen_load (freshAt_other _ (by decide)) ⟨w.heap.size, 8, none⟩ (c58) (show w.heap.size ≠ (w.heap.size + 1 + 1 + 1) by omega) (fun w hc => by go_simp)) ?_
  simp only [Act.put, List.setIfInBounds_toArray, List.set_cons_succ, List.set_cons_zero]
  refine Ev.ev_step (v := .int .i64 ver) rfl rfl (gen_pure (freshAt_other _ (by decide)) (fun _ => by first | rfl | (go_simp; done) | (go_simp; rfl))) ?_
  simp only [Act.put, List.setIfInBounds_toArray, List.set_cons_succ, List.set_cons_zero]
  refine Ev.ev_step (v := .agg (fresh r e now ver).c) rfl rfl (gen_pure (freshAt_other _ (by decide)) (fun _ => by first | rfl | (go_simp; done) | (go_simp; rfl))) ?_
  simp only [Act.put, List.setIfInBounds_toArray, List.set_cons_succ, List.set_cons_zero]
  refine Ev.ev_step (v := undef) rfl rfl (gen_store (fresh r e now ver).c (fun S h => by unfold freshAt; rw [Ev.set_same h, if_pos rfl]) (fun S => by unfold freshAt; split <;> rfl) 38 (.tmp 11) (.tmp 26) rfl rfl rfl (by kernel_rfl) (ent_one _)) ?_
  simp only [Act.put]
  refine Ev.ev_nil (fun w_e hw_e => ?_)
  have hm := hw_e.mod
  have b4e := hw_e.blk
  rw [show freshAt (fresh r e now ver).c (Array.replicate _ true) = (fresh r e now ver).c by unfold freshAt; rw [all_bit (by decide), if_pos rfl]] at b4e
  clear hw_e c60 c52 c53 c58 b4
  replace b1 := hm.blk b1 (by omega)
  replace b2 := hm.blk b2 (by omega)
  replace b3 := hm.blk b3 (by omega)
  replace hB := hm.after hB hB.size (fun k hk => by omega)
  have b4 := b4e
  clear hm b4e
  have hr := HR.out
  have e3 : (r.verb == 3) = false := by rw [hr]; rfl
  have e4 : (r.verb == 4) = false := by rw [hr]; rfl
  have e5 : (r.verb == 5) = false := by rw [hr]; rfl
  have e6 : (r.verb == 6) = false := by rw [hr]; rfl
  have e7 : (r.verb == 7) = false := by rw [hr]; rfl
  have e8 : (r.verb == 8) = true := by rw [hr]; rfl
  have e9 : (r.verb == 9) = false := by rw [hr]; rfl
  have e10 : (r.verb == 10) = false := by rw [hr]; rfl
  have e11 : (r.verb == 11) = false := by rw [hr]; rfl
  have e12 : (r.verb == 12) = false := by rw [hr]; rfl
  have c50 : w_e.cell? ⟨w.heap.size, 0, none⟩ = some (.int .i64 r.verb) := blk_cell b1 0
  clear hr HR
  go_wp2
  clear e3 e4 e5 e6 e7 e8 e9 e10 e11 e12 c50
  obtain ⟨W2, hW2⟩ : ∃ W2, W2 = w_e := ⟨_, rfl⟩
  rw [← hW2] at b1 b2 b3 b4 hB ⊢
  clear hW2
  refine Ev.region_ev (Ev.Two W2 (w.heap.size + 1 + 1) (w.heap.size + 1 + 1 + 1) 32 38 A0 (ans 5 0 ⟨#[]⟩) (fresh r e now ver).c (fresh r e now ver).c 2 3) (by kernel_rfl) (by kernel_rfl) (Ev.two_start b3 b4) ?_
  refine Ev.ev_step (v := .agg (ans 5 0 ⟨#[]⟩)) rfl rfl (Ev.two_call (by decide) (by decide) 41 #[.int .i64 5] (fun _ => by first | (go_simp; done) | (go_simp; rfl)) (fun w => refSay_calls 5 w)) ?_
  simp only [Act.put, List.setIfInBounds_toArray, List.set_cons_succ, List.set_cons_zero]
  refine Ev.ev_step (v := .agg (fresh r e now ver).c) rfl rfl (Ev.two_load2 (by decide) (by decide) 38 (.tmp 11) rfl rfl _ rfl Tryd.underlying38 rfl (by kernel_rfl)) ?_
  simp only [Act.put, List.setIfInBounds_toArray, List.set_cons_succ, List.set_cons_zero]
  refine Ev.ev_step (v := undef) rfl rfl (Ev.two_store1 (by decide) (by omega) 32 (.tmp 10) (.tmp 86) rfl rfl rfl rfl (by kernel_rfl) (ans_one _ _ _)) ?_
  simp only [Act.put]
  refine Ev.ev_step (v := undef) rfl rfl (Ev.two_store2 (by decide) (by omega) 38 (.tmp 11) (.tmp 87) rfl rfl rfl rfl (by kernel_rfl) (ent_one _)) ?_
  simp only [Act.put]
  refine Ev.ev_step (v := .bool false) rfl rfl (Ev.two_pure (by decide) (by decide) (fun _ => by rfl)) ?_
  simp only [Act.put, List.setIfInBounds_toArray, List.set_cons_succ, List.set_cons_zero]
  refine Ev.ev_step (v := .bool false) rfl rfl (Ev.two_pure (by decide) (by decide) (fun _ => by rfl)) ?_
  simp only [Act.put, List.setIfInBounds_toArray, List.set_cons_succ, List.set_cons_zero]
  refine Ev.ev_nil (fun w_e hw_e => ?_)
  obtain ⟨hM_e, hA_e, hX_e⟩ := Ev.two_end hw_e (by decide) (by decide)
  clear hw_e
  go_wp2
  refine bodyPost_ret (Ev.results_c3 rfl rfl hA_e Tryd.underlying32 rfl (by kernel_rfl) rfl hX_e Tryd.underlying38 rfl (by kernel_rfl) rfl rfl) rfl ⟨rfl, ?_⟩
  exact Mod.after hB hB.size hM_e (fun k hk => by omega)
set_option maxHeartbeats 4000000 in
set_option maxRecDepth 100000 in
theorem rnext_delete_no (r : Rq) (kv : Value) (e : Ent) (now ver : Int) (w : World) (hr : r.verb = 9) :
    Calls Tryd.prog 18 #[.agg (r.c kv), .agg e.c, .bool false, .int .i64 now, .int .i64 ver] w fun e_ w' => e_ = .returned (.tuple #[.agg (ans 5 0 ⟨#[]⟩), .agg (fresh r e now ver).c, .bool false, .bool false]) ∧ Below w.heap.size w w' := by
  have HR := Aside0.mk hr
  clear hr
  simp only [Rq.c, Ent.c]
  go_enter Tryd.func18, Tryd.ntmps18
  go_wp2
  obtain ⟨W, hW⟩ : ∃ W, W = (((w.alloc (.cells (r.c kv) 27)).alloc (.cells e.c 38)).alloc (.cells A0 32)).alloc (.cells E0 38) := ⟨_, rfl⟩
  obtain ⟨b1, b2, b3, b4, hB⟩ := four w (.cells (r.c kv) 27) (.cells e.c 38) (.cells A0 32) (.cells E0 38)
  change Code.wp _ _ _ _ ((((w.alloc (.cells (r.c kv) 27)).alloc (.cells e.c 38)).alloc (.cells A0 32)).alloc (.cells E0 38))
  rw [← hW] at b1 b2 b3 b4 hB ⊢
  clear hW
  have c60 : W.cell? ⟨w.heap.size + 1, 0, none⟩ = some (.string e.key) := blk_cell b2 0
  have c52 : W.cell? ⟨w.heap.size, 2, none⟩ = some (.int .i64 r.fl) := blk_cell b1 2
  have c53 : W.cell? ⟨w.heap.size, 3, none⟩ = some (.int .i64 r.exp) := blk_cell b1 3
  have c58 : W.cell? ⟨w.heap.size, 8, none⟩ = some (.string r.data) := blk_cell b1 8
  refine Ev.region_ev (Gen W (w.heap.size + 1 + 1 + 1) 38 (freshAt (fresh r e now ver).c)) (by kernel_rfl) (by kernel_rfl) (gen_start b4 (by unfold freshAt; rw [no_bit]; rfl)) ?_
  refine Ev.ev_step (v := .pointer (some ⟨(w.heap.size + 1), 0, none⟩)) rfl rfl (gen_pure (freshAt_other _ (by decide)) (fun _ => by first | rfl | (go_simp; done) | (go_simp; rfl))) ?_
  simp only [Act.put, List.setIfInBounds_toArray, List.set_cons_succ, List.set_cons_zero]
  refine Ev.ev_step (v := .string e.key) rfl rfl (gen_load (freshAt_other _ (by decide)) ⟨(w.heap.size + 1), 0, none⟩ (c60) (show (w.heap.size + 1) ≠ (w.heap.size + 1 + 1 + 1) by omega) (fun w hc => by go_simp)) ?_
  simp only [Act.put, List.setIfInBounds_toArray, List.set_cons_succ, List.set_cons_zero]
  refine Ev.ev_step (v := .pointer (some ⟨w.heap.size, 2, none⟩)) rfl rfl (gen_pure (freshAt_other _ (by decide)) (fun _ => by first | rfl | (go_simp; done) | (go_simp; rfl))) ?_
  simp only [Act.put, List.setIfInBounds_toArray, List.set_cons_succ, List.set_cons_zero]
  refine Ev.ev_step (v := .int .i64 r.fl) rfl rfl (gen_load (freshAt_other _ (by decide)) ⟨w.heap.size, 2, none⟩ (c52) (show w.heap.size ≠ (w.heap.size + 1 + 1 + 1) by omega) (fun w hc => by go_simp)) ?_
  simp only [Act.put, List.setIfInBounds_toArray, List.set_cons_succ, List.set_cons_zero]
  refine Ev.ev_step (v := .pointer (some ⟨w.heap.size, 3, none⟩)) rfl rfl (gen_pure (freshAt_other _ (by decide)) (fun _ => by first | rfl | (go_simp; done) | (go_simp; rfl))) ?_
  simp only [Act.put, List.setIfInBounds_toArray, List.set_cons_succ, List.set_cons_zero]
  refine Ev.ev_step (v := .int .i64 r.exp) rfl rfl (gen_load (freshAt_other _ (by decide)) ⟨w.heap.size, 3, none⟩ (c53) (show w.heap.size ≠ (w.heap.size + 1 + 1 + 1) by omega) (fun w hc => by go_simp)) ?_
  simp only [Act.put, List.setIfInBounds_toArray, List.set_cons_succ, List.set_cons_zero]
  refine Ev.ev_step (v := .int .i64 now) rfl rfl (gen_pure (freshAt_other _ (by decide)) (fun _ => by first | rfl | (go_simp; done) | (go_simp; rfl))) ?_
  simp only [Act.put, List.setIfInBounds_toArray, List.set_cons_succ, List.set_cons_zero]
  refine Ev.ev_step (v := .int .i64 (dead r.exp now)) rfl rfl (gen_call (freshAt_other _ (by decide)) 40 #[.int .i64 r.exp, .int .i64 now] (fun _ => by first | (go_simp; done) | (go_simp; rfl)) (fun w => refDead_calls _ _ w)) ?_
  simp only [Act.put, List.setIfInBounds_toArray, List.set_cons_succ, List.set_cons_zero]
  refine Ev.ev_step (v := .pointer (some ⟨w.heap.size, 8, none⟩)) rfl rfl (gen_pure (freshAt_other _ (by decide)) (fun _ => by first | rfl | (go_simp; done) | (go_simp; rfl))) ?_
  simp only [Act.put, List.setIfInBounds_toArray, List.set_cons_succ, List.set_cons_zero]
  refine Ev.ev_step (v := .string r.data) rfl rfl (gen_load (freshAt_other _ (by decide)) ⟨w.heap.size, 8, none⟩ (c58) (show w.heap.size ≠ (w.heap.size + 1 + 1 + 1) by omega) (fun w hc => by go_simp)) ?_
  simp only [Act.put, List.setIfInBounds_toArray, List.set_cons_succ, List.set_cons_zero]
  refine Ev.ev_step (v := .int .i64 ver) rfl rfl (gen_pure (freshAt_other _ (by decide)) (fun _ => by first | rfl | (go_simp; done) | (go_simp; rfl))) ?_
  simp only [Act.put, List.setIfInBounds_toArray, List.set_cons_succ, List.set_cons_zero]
  refine Ev.ev_step (v := .agg (fresh r e now ver).c) rfl rfl (gen_pure (freshAt_other _ (by decide)) (fun _ => by first | rfl | (go_simp; done) | (go_simp; rfl))) ?_
  simp only [Act.put, List.setIfInBounds_toArray, List.set_cons_succ, List.set_cons_zero]
  refine Ev.ev_step (v := undef) rfl rfl (gen_store (fresh r e now ver).c (fun S h => by unfold freshAt; rw [Ev.set_same h, if_pos rfl]) (fun S => by unfold freshAt; split <;> rfl) 38 (.tmp 11) (.tmp 26) rfl rfl rfl (by kernel_rfl) (ent_one _)) ?_
  simp only [Act.put]
  refine Ev.ev_nil (fun w_e hw_e => ?_)
  have hm := hw_e.mod
  have b4e := hw_e.blk
  rw [show freshAt (fresh r e now ver).c (Array.replicate _ true) = (fresh r e now ver).c by unfold freshAt; rw [all_bit (by decide), if_pos rfl]] at b4e
  clear hw_e c60 c52 c53 c58 b4
  replace b1 := hm.blk b1 (by omega)
  replace b2 := hm.blk b2 (by omega)
  replace b3 := hm.blk b3 (by omega)
  replace hB := hm.after hB hB.size (fun k hk => by omega)
  have b4 := b4e
  clear hm b4e
  have hr := HR.out
  have e3 : (r.verb == 3) = false := by rw [hr]; rfl
  have e4 : (r.verb == 4) = false := by rw [hr]; rfl
  have e5 : (r.verb == 5) = false := by rw [hr]; rfl
  have e6 : (r.verb == 6) = false := by rw [hr]; rfl
  have e7 : (r.verb == 7) = false := by rw [hr]; rfl
  have e8 : (r.verb == 8) = false := by rw [hr]; rfl
  have e9 : (r.verb == 9) = true := by rw [hr]; rfl
  have e10 : (r.verb == 10) = false := by rw [hr]; rfl
  have e11 : (r.verb == 11) = false := by rw [hr]; rfl
  have e12 : (r.verb == 12) = false := by rw [hr]; rfl
  have c50 : w_e.cell? ⟨w.heap.size, 0, none⟩ = some (.int .i64 r.verb) := blk_cell b1 0
  clear hr HR
  go_wp2
  clear e3 e4 e5 e6 e7 e8 e9 e10 e11 e12 c50
  obtain ⟨W2, hW2⟩ : ∃ W2, W2 = w_e := ⟨_, rfl⟩
  rw [← hW2] at b1 b2 b3 b4 hB ⊢
  clear hW2
  refine Ev.region_ev (Ev.Two W2 (w.heap.size + 1 + 1) (w.heap.size + 1 + 1 + 1) 32 38 A0 (ans 5 0 ⟨#[]⟩) (fresh r e now ver).c (fresh r e now ver).c 2 3) (by kernel_rfl) (by kernel_rfl) (Ev.two_start b3 b4) ?_
  refine Ev.ev_step (v := .agg (ans 5 0 ⟨#[]⟩)) rfl rfl (Ev.two_call (by decide) (by decide) 41 #[.int .i64 5] (fun _ => by first | (go_simp; done) | (go_simp; rfl)) (fun w => refSay_calls 5 w)) ?_
  simp only [Act.put, List.setIfInBounds_toArray, List.set_cons_succ, List.set_cons_zero]
  refine Ev.ev_step (v := .agg (fresh r e now ver).c) rfl rfl (Ev.two_load2 (by decide) (by decide) 38 (.tmp 11) rfl rfl _ rfl Tryd.underlying38 rfl (by kernel_rfl)) ?_
  simp only [Act.put, List.setIfInBounds_toArray, List.set_cons_succ, List.set_cons_zero]
  refine Ev.ev_step (v := undef) rfl rfl (Ev.two_store1 (by decide) (by omega) 32 (.tmp 10) (.tmp 101) rfl rfl rfl rfl (by kernel_rfl) (ans_one _ _ _)) ?_
  simp only [Act.put]
  refine Ev.ev_step (v := undef) rfl rfl (Ev.two_store2 (by decide) (by omega) 38 (.tmp 11) (.tmp 102) rfl rfl rfl rfl (by kernel_rfl) (ent_one _)) ?_
  simp only [Act.put]
  refine Ev.ev_step (v := .bool false) rfl rfl (Ev.two_pure (by decide) (by decide) (fun _ => by rfl)) ?_
  simp only [Act.put, List.setIfInBounds_toArray, List.set_cons_succ, List.set_cons_zero]
  refine Ev.ev_step (v := .bool false) rfl rfl (Ev.two_pure (by decide) (by decide) (fun _ => by rfl)) ?_
  simp only [Act.put, List.setIfInBounds_toArray, List.set_cons_succ, List.set_cons_zero]
  refine Ev.ev_nil (fun w_e hw_e => ?_)
  obtain ⟨hM_e, hA_e, hX_e⟩ := Ev.two_end hw_e (by decide) (by decide)
  clear hw_e
  go_wp2
  refine bodyPost_ret (Ev.results_c3 rfl rfl hA_e Tryd.underlying32 rfl (by kernel_rfl) rfl hX_e Tryd.underlying38 rfl (by kernel_rfl) rfl rfl) rfl ⟨rfl, ?_⟩
  exact Mod.after hB hB.size hM_e (fun k hk => by omega)
set_option maxHeartbeats 4000000 in
set_option maxRecDepth 100000 in
theorem rnext_touch_no (r : Rq) (kv : Value) (e : Ent) (now ver : Int) (w : World) (hr : r.verb = 12) :
    Calls Tryd.prog 18 #[.agg (r.c kv), .agg e.c, .bool false, .int .i64 now, .int .i64 ver] w fun e_ w' => e_ = .returned (.tuple #[.agg (ans 5 0 ⟨#[]⟩), .agg (fresh r e now ver).c, .bool false, .bool false]) ∧ Below w.heap.size w w' := by
  have HR := Aside0.mk hr
  clear hr
  simp only [Rq.c, Ent.c]
  go_enter Tryd.func18, Tryd.ntmps18
  go_wp2
  obtain ⟨W, hW⟩ : ∃ W, W = (((w.alloc (.cells (r.c kv) 27)).alloc (.cells e.c 38)).alloc (.cells A0 32)).alloc (.cells E0 38) := ⟨_, rfl⟩
  obtain ⟨b1, b2, b3, b4, hB⟩ := four w (.cells (r.c kv) 27) (.cells e.c 38) (.cells A0 32) (.cells E0 38)
  change Code.wp _ _ _ _ ((((w.alloc (.cells (r.c kv) 27)).alloc (.cells e.c 38)).alloc (.cells A0 32)).alloc (.cells E0 38))
  rw [← hW] at b1 b2 b3 b4 hB ⊢
  clear hW
  have c60 : W.cell? ⟨w.heap.size + 1, 0, none⟩ = some (.string e.key) := blk_cell b2 0
  have c52 : W.cell? ⟨w.heap.size, 2, none⟩ = some (.int .i64 r.fl) := blk_cell b1 2
  have c53 : W.cell? ⟨w.heap.size, 3, none⟩ = some (.int .i64 r.exp) := blk_cell b1 3
  have c58 : W.cell? ⟨w.heap.size, 8, none⟩ = some (.string r.data) := blk_cell b1 8
  refine Ev.region_ev (Gen W (w.heap.size + 1 + 1 + 1) 38 (freshAt (fresh r e now ver).c)) (by kernel_rfl) (by kernel_rfl) (gen_start b4 (by unfold freshAt; rw [no_bit]; rfl)) ?_
  refine Ev.ev_step (v := .pointer (some ⟨(w.heap.size + 1), 0, none⟩)) rfl rfl (gen_pure (freshAt_other _ (by decide)) (fun _ => by first | rfl | (go_simp; done) | (go_simp; rfl))) ?_
  simp only [Act.put, List.setIfInBounds_toArray, List.set_cons_succ, List.set_cons_zero]
  refine Ev.ev_step (v := .string e.key) rfl rfl (gen_load (freshAt_other _ (by decide)) ⟨(w.heap.size + 1), 0, none⟩ (c60) (show (w.heap.size + 1) ≠ (w.heap.size + 1 + 1 + 1) by omega) (fun w hc => by go_simp)) ?_
  simp only [Act.put, List.setIfInBounds_toArray, List.set_cons_succ, List.set_cons_zero]
  refine Ev.ev_step (v := .pointer (some ⟨w.heap.size, 2, none⟩)) rfl rfl (gen_pure (freshAt_other _ (by decide)) (fun _ => by first | rfl | (go_simp; done) | (go_simp; rfl))) ?_
  simp only [Act.put, List.setIfInBounds_toArray, List.set_cons_succ, List.set_cons_zero]
  refine Ev.ev_step (v := .int .i64 r.fl) rfl rfl (gen_load (freshAt_other _ (by decide)) ⟨w.heap.size, 2, none⟩ (c52) (show w.heap.size ≠ (w.heap.size + 1 + 1 + 1) by omega) (fun w hc => by go_simp)) ?_
  simp only [Act.put, List.setIfInBounds_toArray, List.set_cons_succ, List.set_cons_zero]
  refine Ev.ev_step (v := .pointer (some ⟨w.heap.size, 3, none⟩)) rfl rfl (gen_pure (freshAt_other _ (by decide)) (fun _ => by first | rfl | (go_simp; done) | (go_simp; rfl))) ?_
  simp only [Act.put, List.setIfInBounds_toArray, List.set_cons_succ, List.set_cons_zero]
  refine Ev.ev_step (v := .int .i64 r.exp) rfl rfl (gen_load (freshAt_other _ (by decide)) ⟨w.heap.size, 3, none⟩ (c53) (show w.heap.size ≠ (w.heap.size + 1 + 1 + 1) by omega) (fun w hc => by go_simp)) ?_
  simp only [Act.put, List.setIfInBounds_toArray, List.set_cons_succ, List.set_cons_zero]
  refine Ev.ev_step (v := .int .i64 now) rfl rfl (gen_pure (freshAt_other _ (by decide)) (fun _ => by first | rfl | (go_simp; done) | (go_simp; rfl))) ?_
  simp only [Act.put, List.setIfInBounds_toArray, List.set_cons_succ, List.set_cons_zero]
  refine Ev.ev_step (v := .int .i64 (dead r.exp now)) rfl rfl (gen_call (freshAt_other _ (by decide)) 40 #[.int .i64 r.exp, .int .i64 now] (fun _ => by first | (go_simp; done) | (go_simp; rfl)) (fun w => refDead_calls _ _ w)) ?_
  simp only [Act.put, List.setIfInBounds_toArray, List.set_cons_succ, List.set_cons_zero]
  refine Ev.ev_step (v := .pointer (some ⟨w.heap.size, 8, none⟩)) rfl rfl (gen_pure (freshAt_other _ (by decide)) (fun _ => by first | rfl | (go_simp; done) | (go_simp; rfl))) ?_
  simp only [Act.put, List.setIfInBounds_toArray, List.set_cons_succ, List.set_cons_zero]
  refine Ev.ev_step (v := .string r.data) rfl rfl (gen_load (freshAt_other _ (by decide)) ⟨w.heap.size, 8, none⟩ (c58) (show w.heap.size ≠ (w.heap.size + 1 + 1 + 1) by omega) (fun w hc => by go_simp)) ?_
  simp only [Act.put, List.setIfInBounds_toArray, List.set_cons_succ, List.set_cons_zero]
  refine Ev.ev_step (v := .int .i64 ver) rfl rfl (gen_pure (freshAt_other _ (by decide)) (fun _ => by first | rfl | (go_simp; done) | (go_simp; rfl))) ?_
  simp only [Act.put, List.setIfInBounds_toArray, List.set_cons_succ, List.set_cons_zero]
  refine Ev.ev_step (v := .agg (fresh r e now ver).c) rfl rfl (gen_pure (freshAt_other _ (by decide)) (fun _ => by first | rfl | (go_simp; done) | (go_simp; rfl))) ?_
  simp only [Act.put, List.setIfInBounds_toArray, List.set_cons_succ, List.set_cons_zero]
  refine Ev.ev_step (v := undef) rfl rfl (gen_store (fresh r e now ver).c (fun S h => by unfold freshAt; rw [Ev.set_same h, if_pos rfl]) (fun S => by unfold freshAt; split <;> rfl) 38 (.tmp 11) (.tmp 26) rfl rfl rfl (by kernel_rfl) (ent_one _)) ?_
  simp only [Act.put]
  refine Ev.ev_nil (fun w_e hw_e => ?_)
  have hm := hw_e.mod
  have b4e := hw_e.blk
  rw [show freshAt (fresh r e now ver).c (Array.replicate _ true) = (fresh r e now ver).c by unfold freshAt; rw [all_bit (by decide), if_pos rfl]] at b4e
  clear hw_e c60 c52 c53 c58 b4
  replace b1 := hm.blk b1 (by omega)
  replace b2 := hm.blk b2 (by omega)
  replace b3 := hm.blk b3 (by omega)
  replace hB := hm.after hB hB.size (fun k hk => by omega)
  have b4 := b4e
  clear hm b4e
  have hr := HR.out
  have e3 : (r.verb == 3) = false := by rw [hr]; rfl
  have e4 : (r.verb == 4) = false := by rw [hr]; rfl
  have e5 : (r.verb == 5) = false := by rw [hr]; rfl
  have e6 : (r.verb == 6) = false := by rw [hr]; rfl
  have e7 : (r.verb == 7) = false := by rw [hr]; rfl
  have e8 : (r.verb == 8) = false := by rw [hr]; rfl
  have e9 : (r.verb == 9) = false := by rw [hr]; rfl
  have e10 : (r.verb == 10) = false := by rw [hr]; rfl
  have e11 : (r.verb == 11) = false := by rw [hr]; rfl
  have e12 : (r.verb == 12) = true := by rw [hr]; rfl
  have c50 : w_e.cell? ⟨w.heap.size, 0, none⟩ = some (.int .i64 r.verb) := blk_cell b1 0
  clear hr HR
  go_wp2
  clear e3 e4 e5 e6 e7 e8 e9 e10 e11 e12 c50
  obtain ⟨W2, hW2⟩ : ∃ W2, W2 = w_e := ⟨_, rfl⟩
  rw [← hW2] at b1 b2 b3 b4 hB ⊢
  clear hW2
  refine Ev.region_ev (Ev.Two W2 (w.heap.size + 1 + 1) (w.heap.size + 1 + 1 + 1) 32 38 A0 (ans 5 0 ⟨#[]⟩) (fresh r e now ver).c (fresh r e now ver).c 2 3) (by kernel_rfl) (by kernel_rfl) (Ev.two_start b3 b4) ?_
  refine Ev.ev_step (v := .agg (ans 5 0 ⟨#[]⟩)) rfl rfl (Ev.two_call (by decide) (by decide) 41 #[.int .i64 5] (fun _ => by first | (go_simp; done) | (go_simp; rfl)) (fun w => refSay_calls 5 w)) ?_
  simp only [Act.put, List.setIfInBounds_toArray, List.set_cons_succ, List.set_cons_zero]
  refine Ev.ev_step (v := .agg (fresh r e now ver).c) rfl rfl (Ev.two_load2 (by decide) (by decide) 38 (.tmp 11) rfl rfl _ rfl Tryd.underlying38 rfl (by kernel_rfl)) ?_
  simp only [Act.put, List.setIfInBounds_toArray, List.set_cons_succ, List.set_cons_zero]
  refine Ev.ev_step (v := undef) rfl rfl (Ev.two_store1 (by decide) (by omega) 32 (.tmp 10) (.tmp 109) rfl rfl rfl rfl (by kernel_rfl) (ans_one _ _ _)) ?_
  simp only [Act.put]
  refine Ev.ev_step (v := undef) rfl rfl (Ev.two_store2 (by decide) (by omega) 38 (.tmp 11) (.tmp 110) rfl rfl rfl rfl (by kernel_rfl) (ent_one _)) ?_
  simp only [Act.put]
  refine Ev.ev_step (v := .bool false) rfl rfl (Ev.two_pure (by decide) (by decide) (fun _ => by rfl)) ?_
  simp only [Act.put, List.setIfInBounds_toArray, List.set_cons_succ, List.set_cons_zero]
  refine Ev.ev_step (v := .bool false) rfl rfl (Ev.two_pure (by decide) (by decide) (fun _ => by rfl)) ?_
  simp only [Act.put, List.setIfInBounds_toArray, List.set_cons_succ, List.set_cons_zero]
  refine Ev.ev_nil (fun w_e hw_e => ?_)
  obtain ⟨hM_e, hA_e, hX_e⟩ := Ev.two_end hw_e (by decide) (by decide)
  clear hw_e
  go_wp2
  refine bodyPost_ret (Ev.results_c3 rfl rfl hA_e Tryd.underlying32 rfl (by kernel_rfl) rfl hX_e Tryd.underlying38 rfl (by kernel_rfl) rfl rfl) rfl ⟨rfl, ?_⟩
  exact Mod.after hB hB.size hM_e (fun k hk => by omega)
set_option maxHeartbeats 4000000 in
set_option maxRecDepth 100000 in
theorem rnext_delete (r : Rq) (kv : Value) (e : Ent) (now ver : Int) (w : World) (hr : r.verb = 9) :
    Calls Tryd.prog 18 #[.agg (r.c kv), .agg e.c, .bool true, .int .i64 now, .int .i64 ver] w fun e_ w' => e_ = .returned (.tuple #[.agg (ans 6 0 ⟨#[]⟩), .agg (fresh r e now ver).c, .bool false, .bool true]) ∧ Below w.heap.size w w' := by
  have HR := Aside0.mk hr
  clear hr
  simp only [Rq.c, Ent.c]
  go_enter Tryd.func18, Tryd.ntmps18
  go_wp2
  obtain ⟨W, hW⟩ : ∃ W, W = (((w.alloc (.cells (r.c kv) 27)).alloc (.cells e.c 38)).alloc (.cells A0 32)).alloc (.cells E0 38) := ⟨_, rfl⟩
  obtain ⟨b1, b2, b3, b4, hB⟩ := four w (.cells (r.c kv) 27) (.cells e.c 38) (.cells A0 32) (.cells E0 38)
  change Code.wp _ _ _ _ ((((w.alloc (.cells (r.c kv) 27)).alloc (.cells e.c 38)).alloc (.cells A0 32)).alloc (.cells E0 38))
  rw [← hW] at b1 b2 b3 b4 hB ⊢
  clear hW
  have c60 : W.cell? ⟨w.heap.size + 1, 0, none⟩ = some (.string e.key) := blk_cell b2 0
  have c52 : W.cell? ⟨w.heap.size, 2, none⟩ = some (.int .i64 r.fl) := blk_cell b1 2
  have c53 : W.cell? ⟨w.heap.size, 3, none⟩ = some (.int .i64 r.exp) := blk_cell b1 3
  have c58 : W.cell? ⟨w.heap.size, 8, none⟩ = some (.string r.data) := blk_cell b1 8
  refine Ev.region_ev (Gen W (w.heap.size + 1 + 1 + 1) 38 (freshAt (fresh r e now ver).c)) (by kernel_rfl) (by kernel_rfl) (gen_start b4 (by unfold freshAt; rw [no_bit]; rfl)) ?_
  refine Ev.ev_step (v := .pointer (some ⟨(w.heap.size + 1), 0, none⟩)) rfl rfl (gen_pure (freshAt_other _ (by decide)) (fun _ => by first | rfl | (go_simp; done) | (go_simp; rfl))) ?_
  simp only [Act.put, List.setIfInBounds_toArray, List.set_cons_succ, List.set_cons_zero]
  refine Ev.ev_step (v := .string e.key) rfl rfl (gen_load (freshAt_other _ (by decide)) ⟨(w.heap.size + 1), 0, none⟩ (c60) (show (w.heap.size + 1) ≠ (w.heap.size + 1 + 1 + 1) by omega) (fun w hc => by go_simp)) ?_
  simp only [Act.put, List.setIfInBounds_toArray, List.set_cons_succ, List.set_cons_zero]
  refine Ev.ev_step (v := .pointer (some ⟨w.heap.size, 2, none⟩)) rfl rfl (gen_pure (freshAt_other _ (by decide)) (fun _ => by first | rfl | (go_simp; done) | (go_simp; rfl))) ?_
  simp only [Act.put, List.setIfInBounds_toArray, List.set_cons_succ, List.set_cons_zero]
  refine Ev.ev_step (v := .int .i64 r.fl) rfl rfl (gen_load (freshAt_other _ (by decide)) ⟨w.heap.size, 2, none⟩ (c52) (show w.heap.size ≠ (w.heap.size + 1 + 1 + 1) by omega) (fun w hc => by go_simp)) ?_
  simp only [Act.put, List.setIfInBounds_toArray, List.set_cons_succ, List.set_cons_zero]
  refine Ev.ev_step (v := .pointer (some ⟨w.heap.size, 3, none⟩)) rfl rfl (gen_pure (freshAt_other _ (by decide)) (fun _ => by first | rfl | (go_simp; done) | (go_simp; rfl))) ?_
  simp only [Act.put, List.setIfInBounds_toArray, List.set_cons_succ, List.set_cons_zero]
  refine Ev.ev_step (v := .int .i64 r.exp) rfl rfl (gen_load (freshAt_other _ (by decide)) ⟨w.heap.size, 3, none⟩ (c53) (show w.heap.size ≠ (w.heap.size + 1 + 1 + 1) by omega) (fun w hc => by go_simp)) ?_
  simp only [Act.put, List.setIfInBounds_toArray, List.set_cons_succ, List.set_cons_zero]
  refine Ev.ev_step (v := .int .i64 now) rfl rfl (gen_pure (freshAt_other _ (by decide)) (fun _ => by first | rfl | (go_simp; done) | (go_simp; rfl))) ?_
  simp only [Act.put, List.setIfInBounds_toArray, List.set_cons_succ, List.set_cons_zero]
  refine Ev.ev_step (v := .int .i64 (dead r.exp now)) rfl rfl (gen_call (freshAt_other _ (by decide)) 40 #[.int .i64 r.exp, .int .i64 now] (fun _ => by first | (go_simp; done) | (go_simp; rfl)) (fun w => refDead_calls _ _ w)) ?_
  simp only [Act.put, List.setIfInBounds_toArray, List.set_cons_succ, List.set_cons_zero]
  refine Ev.ev_step (v := .pointer (some ⟨w.heap.size, 8, none⟩)) rfl rfl (gen_pure (freshAt_other _ (by decide)) (fun _ => by first | rfl | (go_simp; done) | (go_simp; rfl))) ?_
  simp only [Act.put, List.setIfInBounds_toArray, List.set_cons_succ, List.set_cons_zero]
  refine Ev.ev_step (v := .string r.data) rfl rfl (gen_load (freshAt_other _ (by decide)) ⟨w.heap.size, 8, none⟩ (c58) (show w.heap.size ≠ (w.heap.size + 1 + 1 + 1) by omega) (fun w hc => by go_simp)) ?_
  simp only [Act.put, List.setIfInBounds_toArray, List.set_cons_succ, List.set_cons_zero]
  refine Ev.ev_step (v := .int .i64 ver) rfl rfl (gen_pure (freshAt_other _ (by decide)) (fun _ => by first | rfl | (go_simp; done) | (go_simp; rfl))) ?_
  simp only [Act.put, List.setIfInBounds_toArray, List.set_cons_succ, List.set_cons_zero]
  refine Ev.ev_step (v := .agg (fresh r e now ver).c) rfl rfl (gen_pure (freshAt_other _ (by decide)) (fun _ => by first | rfl | (go_simp; done) | (go_simp; rfl))) ?_
  simp only [Act.put, List.setIfInBounds_toArray, List.set_cons_succ, List.set_cons_zero]
  refine Ev.ev_step (v := undef) rfl rfl (gen_store (fresh r e now ver).c (fun S h => by unfold freshAt; rw [Ev.set_same h, if_pos rfl]) (fun S => by unfold freshAt; split <;> rfl) 38 (.tmp 11) (.tmp 26) rfl rfl rfl (by kernel_rfl) (ent_one _)) ?_
  simp only [Act.put]
  refine Ev.ev_nil (fun w_e hw_e => ?_)
  have hm := hw_e.mod
  have b4e := hw_e.blk
  rw [show freshAt (fresh r e now ver).c (Array.replicate _ true) = (fresh r e now ver).c by unfold freshAt; rw [all_bit (by decide), if_pos rfl]] at b4e
  clear hw_e c60 c52 c53 c58 b4
  replace b1 := hm.blk b1 (by omega)
  replace b2 := hm.blk b2 (by omega)
  replace b3 := hm.blk b3 (by omega)
  replace hB := hm.after hB hB.size (fun k hk => by omega)
  have b4 := b4e
  clear hm b4e
  have hr := HR.out
  have e3 : (r.verb == 3) = false := by rw [hr]; rfl
  have e4 : (r.verb == 4) = false := by rw [hr]; rfl
  have e5 : (r.verb == 5) = false := by rw [hr]; rfl
  have e6 : (r.verb == 6) = false := by rw [hr]; rfl
  have e7 : (r.verb == 7) = false := by rw [hr]; rfl
  have e8 : (r.verb == 8) = false := by rw [hr]; rfl
  have e9 : (r.verb == 9) = true := by rw [hr]; rfl
  have e10 : (r.verb == 10) = false := by rw [hr]; rfl
  have e11 : (r.verb == 11) = false := by rw [hr]; rfl
  have e12 : (r.verb == 12) = false := by rw [hr]; rfl
  have c50 : w_e.cell? ⟨w.heap.size, 0, none⟩ = some (.int .i64 r.verb) := blk_cell b1 0
  clear hr HR
  go_wp2
  clear e3 e4 e5 e6 e7 e8 e9 e10 e11 e12 c50
  obtain ⟨W2, hW2⟩ : ∃ W2, W2 = w_e := ⟨_, rfl⟩
  rw [← hW2] at b1 b2 b3 b4 hB ⊢
  clear hW2
  refine Ev.region_ev (Ev.Two W2 (w.heap.size + 1 + 1) (w.heap.size + 1 + 1 + 1) 32 38 A0 (ans 6 0 ⟨#[]⟩) (fresh r e now ver).c (fresh r e now ver).c 2 3) (by kernel_rfl) (by kernel_rfl) (Ev.two_start b3 b4) ?_
  refine Ev.ev_step (v := .agg (ans 6 0 ⟨#[]⟩)) rfl rfl (Ev.two_call (by decide) (by decide) 41 #[.int .i64 6] (fun _ => by first | (go_simp; done) | (go_simp; rfl)) (fun w => refSay_calls 6 w)) ?_
  simp only [Act.put, List.setIfInBounds_toArray, List.set_cons_succ, List.set_cons_zero]
  refine Ev.ev_step (v := .agg (fresh r e now ver).c) rfl rfl (Ev.two_load2 (by decide) (by decide) 38 (.tmp 11) rfl rfl _ rfl Tryd.underlying38 rfl (by kernel_rfl)) ?_
  simp only [Act.put, List.setIfInBounds_toArray, List.set_cons_succ, List.set_cons_zero]
  refine Ev.ev_step (v := undef) rfl rfl (Ev.two_store1 (by decide) (by omega) 32 (.tmp 10) (.tmp 103) rfl rfl rfl rfl (by kernel_rfl) (ans_one _ _ _)) ?_
  simp only [Act.put]
  refine Ev.ev_step (v := undef) rfl rfl (Ev.two_store2 (by decide) (by omega) 38 (.tmp 11) (.tmp 104) rfl rfl rfl rfl (by kernel_rfl) (ent_one _)) ?_
  simp only [Act.put]
  refine Ev.ev_step (v := .bool false) rfl rfl (Ev.two_pure (by decide) (by decide) (fun _ => by rfl)) ?_
  simp only [Act.put, List.setIfInBounds_toArray, List.set_cons_succ, List.set_cons_zero]
  refine Ev.ev_step (v := .bool true) rfl rfl (Ev.two_pure (by decide) (by decide) (fun _ => by rfl)) ?_
  simp only [Act.put, List.setIfInBounds_toArray, List.set_cons_succ, List.set_cons_zero]
  refine Ev.ev_nil (fun w_e hw_e => ?_)
  obtain ⟨hM_e, hA_e, hX_e⟩ := Ev.two_end hw_e (by decide) (by decide)
  clear hw_e
  go_wp2
  refine bodyPost_ret (Ev.results_c3 rfl rfl hA_e Tryd.underlying32 rfl (by kernel_rfl) rfl hX_e Tryd.underlying38 rfl (by kernel_rfl) rfl rfl) rfl ⟨rfl, ?_⟩
  exact Mod.after hB hB.size hM_e (fun k hk => by omega)
set_option maxHeartbeats 4000000 in
set_option maxRecDepth 100000 in
theorem rnext_cas_other (r : Rq) (kv : Value) (e : Ent) (hc : e.cas ≠ r.cas) (now ver : Int) (w : World) (hr : r.verb = 8) :
    Calls Tryd.prog 18 #[.agg (r.c kv), .agg e.c, .bool true, .int .i64 now, .int .i64 ver] w fun e_ w' => e_ = .returned (.tuple #[.agg (ans 4 0 ⟨#[]⟩), .agg (fresh r e now ver).c, .bool false, .bool false]) ∧ Below w.heap.size w w' := by
  have HC := Aside0.mk hc
  clear hc
  have HR := Aside0.mk hr
  clear hr
  simp only [Rq.c, Ent.c]
  go_enter Tryd.func18, Tryd.ntmps18
  go_wp2
  obtain ⟨W, hW⟩ : ∃ W, W = (((w.alloc (.cells (r.c kv) 27)).alloc (.cells e.c 38)).alloc (.cells A0 32)).alloc (.cells E0 38) := ⟨_, rfl⟩
  obtain ⟨b1, b2, b3, b4, hB⟩ := four w (.cells (r.c kv) 27) (.cells e.c 38) (.cells A0 32) (.cells E0 38)
  change Code.wp _ _ _ _ ((((w.alloc (.cells (r.c kv) 27)).alloc (.cells e.c 38)).alloc (.cells A0 32)).alloc (.cells E0 38))
  rw [← hW] at b1 b2 b3 b4 hB ⊢
  clear hW
  have c60 : W.cell? ⟨w.heap.size + 1, 0, none⟩ = some (.string e.key) := blk_cell b2 0
  have c52 : W.cell? ⟨w.heap.size, 2, none⟩ = some (.int .i64 r.fl) := blk_cell b1 2
  have c53 : W.cell? ⟨w.heap.size, 3, none⟩ = some (.int .i64 r.exp) := blk_cell b1 3
  have c58 : W.cell? ⟨w.heap.size, 8, none⟩ = some (.string r.data) := blk_cell b1 8
  refine Ev.region_ev (Gen W (w.heap.size + 1 + 1 + 1) 38 (freshAt (fresh r e now ver).c)) (by kernel_rfl) (by kernel_rfl) (gen_start b4 (by unfold freshAt; rw [no_bit]; rfl)) ?_
  refine Ev.ev_step (v := .pointer (some ⟨(w.heap.size + 1), 0, none⟩)) rfl rfl (gen_pure (freshAt_other _ (by decide)) (fun _ => by first | rfl | (go_simp; done) | (go_simp; rfl))) ?_
  simp only [Act.put, List.setIfInBounds_toArray, List.set_cons_succ, List.set_cons_zero]
  refine Ev.ev_step (v := .string e.key) rfl rfl (gen_load (freshAt_other _ (by decide)) ⟨(w.heap.size + 1), 0, none⟩ (c60) (show (w.heap.size + 1) ≠ (w.heap.size + 1 + 1 + 1) by omega) (fun w hc => by go_simp)) ?_
  simp only [Act.put, List.setIfInBounds_toArray, List.set_cons_succ, List.set_cons_zero]
  refine Ev.ev_step (v := .pointer (some ⟨w.heap.size, 2, none⟩)) rfl rfl (gen_pure (freshAt_other _ (by decide)) (fun _ => by first | rfl | (go_simp; done) | (go_simp; rfl))) ?_
  simp only [Act.put, List.setIfInBounds_toArray, List.set_cons_succ, List.set_cons_zero]
  refine Ev.ev_step (v := .int .i64 r.fl) rfl rfl (gen_load (freshAt_other _ (by decide)) ⟨w.heap.size, 2, none⟩ (c52) (show w.heap.size ≠ (w.heap.size + 1 + 1 + 1) by omega) (fun w hc => by go_simp)) ?_
  simp only [Act.put, List.setIfInBounds_toArray, List.set_cons_succ, List.set_cons_zero]
  refine Ev.ev_step (v := .pointer (some ⟨w.heap.size, 3, none⟩)) rfl rfl (gen_pure (freshAt_other _ (by decide)) (fun _ => by first | rfl | (go_simp; done) | (go_simp; rfl))) ?_
  simp only [Act.put, List.setIfInBounds_toArray, List.set_cons_succ, List.set_cons_zero]
  refine Ev.ev_step (v := .int .i64 r.exp) rfl rfl (gen_load (freshAt_other _ (by decide)) ⟨w.heap.size, 3, none⟩ (c53) (show w.heap.size ≠ (w.heap.size + 1 + 1 + 1) by omega) (fun w hc => by go_simp)) ?_
  simp only [Act.put, List.setIfInBounds_toArray, List.set_cons_succ, List.set_cons_zero]
  refine Ev.ev_step (v := .int .i64 now) rfl rfl (gen_pure (freshAt_other _ (by decide)) (fun _ => by first | rfl | (go_simp; done) | (go_simp; rfl))) ?_
  simp only [Act.put, List.setIfInBounds_toArray, List.set_cons_succ, List.set_cons_zero]
  refine Ev.ev_step (v := .int .i64 (dead r.exp now)) rfl rfl (gen_call (freshAt_other _ (by decide)) 40 #[.int .i64 r.exp, .int .i64 now] (fun _ => by first | (go_simp; done) | (go_simp; rfl)) (fun w => refDead_calls _ _ w)) ?_
  simp only [Act.put, List.setIfInBounds_toArray, List.set_cons_succ, List.set_cons_zero]
  refine Ev.ev_step (v := .pointer (some ⟨w.heap.size, 8, none⟩)) rfl rfl (gen_pure (freshAt_other _ (by decide)) (fun _ => by first | rfl | (go_simp; done) | (go_simp; rfl))) ?_
  simp only [Act.put, List.setIfInBounds_toArray, List.set_cons_succ, List.set_cons_zero]
  refine Ev.ev_step (v := .string r.data) rfl rfl (gen_load (freshAt_other _ (by decide)) ⟨w.heap.size, 8, none⟩ (c58) (show w.heap.size ≠ (w.heap.size + 1 + 1 + 1) by omega) (fun w hc => by go_simp)) ?_
  simp only [Act.put, List.setIfInBounds_toArray, List.set_cons_succ, List.set_cons_zero]
  refine Ev.ev_step (v := .int .i64 ver) rfl rfl (gen_pure (freshAt_other _ (by decide)) (fun _ => by first | rfl | (go_simp; done) | (go_simp; rfl))) ?_
  simp only [Act.put, List.setIfInBounds_toArray, List.set_cons_succ, List.set_cons_zero]
  refine Ev.ev_step (v := .agg (fresh r e now ver).c) rfl rfl (gen_pure (freshAt_other _ (by decide)) (fun _ => by first | rfl | (go_simp; done) | (go_simp; rfl))) ?_
  simp only [Act.put, List.setIfInBounds_toArray, List.set_cons_succ, List.set_cons_zero]
  refine Ev.ev_step (v := undef) rfl rfl (gen_store (fresh r e now ver).c (fun S h => by unfold freshAt; rw [Ev.set_same h, if_pos rfl]) (fun S => by unfold freshAt; split <;> rfl) 38 (.tmp 11) (.tmp 26) rfl rfl rfl (by kernel_rfl) (ent_one _)) ?_
  simp only [Act.put]
  refine Ev.ev_nil (fun w_e hw_e => ?_)
  have hm := hw_e.mod
  have b4e := hw_e.blk
  rw [show freshAt (fresh r e now ver).c (Array.replicate _ true) = (fresh r e now ver).c by unfold freshAt; rw [all_bit (by decide), if_pos rfl]] at b4e
  clear hw_e c60 c52 c53 c58 b4
  replace b1 := hm.blk b1 (by omega)
  replace b2 := hm.blk b2 (by omega)
  replace b3 := hm.blk b3 (by omega)
  replace hB := hm.after hB hB.size (fun k hk => by omega)
  have b4 := b4e
  clear hm b4e
  have hr := HR.out
  have e3 : (r.verb == 3) = false := by rw [hr]; rfl
  have e4 : (r.verb == 4) = false := by rw [hr]; rfl
  have e5 : (r.verb == 5) = false := by rw [hr]; rfl
  have e6 : (r.verb == 6) = false := by rw [hr]; rfl
  have e7 : (r.verb == 7) = false := by rw [hr]; rfl
  have e8 : (r.verb == 8) = true := by rw [hr]; rfl
  have e9 : (r.verb == 9) = false := by rw [hr]; rfl
  have e10 : (r.verb == 10) = false := by rw [hr]; rfl
  have e11 : (r.verb == 11) = false := by rw [hr]; rfl
  have e12 : (r.verb == 12) = false := by rw [hr]; rfl
  have c50 : w_e.cell? ⟨w.heap.size, 0, none⟩ = some (.int .i64 r.verb) := blk_cell b1 0
  clear hr HR
  have c54 : w_e.cell? ⟨w.heap.size + 1, 4, none⟩ = some (.int .i64 e.cas) := blk_cell b2 4
  have c55 : w_e.cell? ⟨w.heap.size, 5, none⟩ = some (.int .i64 r.cas) := blk_cell b1 5
  have ec : (e.cas == r.cas) = false := by simp [HC.out]
  clear HC
  go_wp2
  clear e3 e4 e5 e6 e7 e8 e9 e10 e11 e12 c50 c54 c55 ec
  obtain ⟨W2, hW2⟩ : ∃ W2, W2 = w_e := ⟨_, rfl⟩
  rw [← hW2] at b1 b2 b3 b4 hB ⊢
  clear hW2
  refine Ev.region_ev (Ev.Two W2 (w.heap.size + 1 + 1) (w.heap.size + 1 + 1 + 1) 32 38 A0 (ans 4 0 ⟨#[]⟩) (fresh r e now ver).c (fresh r e now ver).c 2 3) (by kernel_rfl) (by kernel_rfl) (Ev.two_start b3 b4) ?_
  refine Ev.ev_step (v := .agg (ans 4 0 ⟨#[]⟩)) rfl rfl (Ev.two_call (by decide) (by decide) 41 #[.int .i64 4] (fun _ => by first | (go_simp; done) | (go_simp; rfl)) (fun w => refSay_calls 4 w)) ?_
  simp only [Act.put, List.setIfInBounds_toArray, List.set_cons_succ, List.set_cons_zero]
  refine Ev.ev_step (v := .agg (fresh r e now ver).c) rfl rfl (Ev.two_load2 (by decide) (by decide) 38 (.tmp 11) rfl rfl _ rfl Tryd.underlying38 rfl (by kernel_rfl)) ?_
  simp only [Act.put, List.setIfInBounds_toArray, List.set_cons_succ, List.set_cons_zero]
  refine Ev.ev_step (v := undef) rfl rfl (Ev.two_store1 (by decide) (by omega) 32 (.tmp 10) (.tmp 93) rfl rfl rfl rfl (by kernel_rfl) (ans_one _ _ _)) ?_
  simp only [Act.put]
  refine Ev.ev_step (v := undef) rfl rfl (Ev.two_store2 (by decide) (by omega) 38 (.tmp 11) (.tmp 94) rfl rfl rfl rfl (by kernel_rfl) (ent_one _)) ?_
  simp only [Act.put]
  refine Ev.ev_step (v := .bool false) rfl rfl (Ev.two_pure (by decide) (by decide) (fun _ => by rfl)) ?_
  simp only [Act.put, List.setIfInBounds_toArray, List.set_cons_succ, List.set_cons_zero]
  refine Ev.ev_step (v := .bool false) rfl rfl (Ev.two_pure (by decide) (by decide) (fun _ => by rfl)) ?_
  simp only [Act.put, List.setIfInBounds_toArray, List.set_cons_succ, List.set_cons_zero]
  refine Ev.ev_nil (fun w_e hw_e => ?_)
  obtain ⟨hM_e, hA_e, hX_e⟩ := Ev.two_end hw_e (by decide) (by decide)
  clear hw_e
  go_wp2
  refine bodyPost_ret (Ev.results_c3 rfl rfl hA_e Tryd.underlying32 rfl (by kernel_rfl) rfl hX_e Tryd.underlying38 rfl (by kernel_rfl) rfl rfl) rfl ⟨rfl, ?_⟩
  exact Mod.after hB hB.size hM_e (fun k hk => by omega)
set_option maxHeartbeats 4000000 in
set_option maxRecDepth 100000 in
theorem rnext_cas (r : Rq) (kv : Value) (e : Ent) (hc : e.cas = r.cas) (now ver : Int) (w : World) (hr : r.verb = 8) :
    Calls Tryd.prog 18 #[.agg (r.c kv), .agg e.c, .bool true, .int .i64 now, .int .i64 ver] w fun e_ w' => e_ = .returned (.tuple #[.agg (ans 2 0 ⟨#[]⟩), .agg (fresh r e now ver).c, .bool true, .bool false]) ∧ Below w.heap.size w w' := by
  have HC := Aside0.mk hc
  clear hc
  have HR := Aside0.mk hr
  clear hr
  simp only [Rq.c, Ent.c]
  go_enter Tryd.func18, Tryd.ntmps18
  go_wp2
  obtain ⟨W, hW⟩ : ∃ W, W = (((w.alloc (.cells (r.c kv) 27)).alloc (.cells e.c 38)).alloc (.cells A0 32)).alloc (.cells E0 38) := ⟨_, rfl⟩
  obtain ⟨b1, b2, b3, b4, hB⟩ := four w (.cells (r.c kv) 27) (.cells e.c 38) (.cells A0 32) (.cells E0 38)
  change Code.wp _ _ _ _ ((((w.alloc (.cells (r.c kv) 27)).alloc (.cells e.c 38)).alloc (.cells A0 32)).alloc (.cells E0 38))
  rw [← hW] at b1 b2 b3 b4 hB ⊢
  clear hW
  have c60 : W.cell? ⟨w.heap.size + 1, 0, none⟩ = some (.string e.key) := blk_cell b2 0
  have c52 : W.cell? ⟨w.heap.size, 2, none⟩ = some (.int .i64 r.fl) := blk_cell b1 2
  have c53 : W.cell? ⟨w.heap.size, 3, none⟩ = some (.int .i64 r.exp) := blk_cell b1 3
  have c58 : W.cell? ⟨w.heap.size, 8, none⟩ = some (.string r.data) := blk_cell b1 8
  refine Ev.region_ev (Gen W (w.heap.size + 1 + 1 + 1) 38 (freshAt (fresh r e now ver).c)) (by kernel_rfl) (by kernel_rfl) (gen_start b4 (by unfold freshAt; rw [no_bit]; rfl)) ?_
  refine Ev.ev_step (v := .pointer (some ⟨(w.heap.size + 1), 0, none⟩)) rfl rfl (gen_pure (freshAt_other _ (by decide)) (fun _ => by first | rfl | (go_simp; done) | (go_simp; rfl))) ?_
  simp only [Act.put, List.setIfInBounds_toArray, List.set_cons_succ, List.set_cons_zero]
  refine Ev.ev_step (v := .string e.key) rfl rfl (gen_load (freshAt_other _ (by decide)) ⟨(w.heap.size + 1), 0, none⟩ (c60) (show (w.heap.size + 1) ≠ (w.heap.size + 1 + 1 + 1) by omega) (fun w hc => by go_simp)) ?_
  simp only [Act.put, List.setIfInBounds_toArray, List.set_cons_succ, List.set_cons_zero]
  refine Ev.ev_step (v := .pointer (some ⟨w.heap.size, 2, none⟩)) rfl rfl (gen_pure (freshAt_other _ (by decide)) (fun _ => by first | rfl | (go_simp; done) | (go_simp; rfl))) ?_
  simp only [Act.put, List.setIfInBounds_toArray, List.set_cons_succ, List.set_cons_zero]
  refine Ev.ev_step (v := .int .i64 r.fl) rfl rfl (gen_load (freshAt_other _ (by decide)) ⟨w.heap.size, 2, none⟩ (c52) (show w.heap.size ≠ (w.heap.size + 1 + 1 + 1) by omega) (fun w hc => by go_simp)) ?_
  simp only [Act.put, List.setIfInBounds_toArray, List.set_cons_succ, List.set_cons_zero]
  refine Ev.ev_step (v := .pointer (some ⟨w.heap.size, 3, none⟩)) rfl rfl (gen_pure (freshAt_other _ (by decide)) (fun _ => by first | rfl | (go_simp; done) | (go_simp; rfl))) ?_
  simp only [Act.put, List.setIfInBounds_toArray, List.set_cons_succ, List.set_cons_zero]
  refine Ev.ev_step (v := .int .i64 r.exp) rfl rfl (gen_load (freshAt_other _ (by decide)) ⟨w.heap.size, 3, none⟩ (c53) (show w.heap.size ≠ (w.heap.size + 1 + 1 + 1) by omega) (fun w hc => by go_simp)) ?_
  simp only [Act.put, List.setIfInBounds_toArray, List.set_cons_succ, List.set_cons_zero]
  refine Ev.ev_step (v := .int .i64 now) rfl rfl (gen_pure (freshAt_other _ (by decide)) (fun _ => by first | rfl | (go_simp; done) | (go_simp; rfl))) ?_
  simp only [Act.put, List.setIfInBounds_toArray, List.set_cons_succ, List.set_cons_zero]
  refine Ev.ev_step (v := .int .i64 (dead r.exp now)) rfl rfl (gen_call (freshAt_other _ (by decide)) 40 #[.int .i64 r.exp, .int .i64 now] (fun _ => by first | (go_simp; done) | (go_simp; rfl)) (fun w => refDead_calls _ _ w)) ?_
  simp only [Act.put, List.setIfInBounds_toArray, List.set_cons_succ, List.set_cons_zero]
  refine Ev.ev_step (v := .pointer (some ⟨w.heap.size, 8, none⟩)) rfl rfl (gen_pure (freshAt_other _ (by decide)) (fun _ => by first | rfl | (go_simp; done) | (go_simp; rfl))) ?_
  simp only [Act.put, List.setIfInBounds_toArray, List.set_cons_succ, List.set_cons_zero]
  refine Ev.ev_step (v := .string r.data) rfl rfl (gen_load (freshAt_other _ (by decide)) ⟨w.heap.size, 8, none⟩ (c58) (show w.heap.size ≠ (w.heap.size + 1 + 1 + 1) by omega) (fun w hc => by go_simp)) ?_
  simp only [Act.put, List.setIfInBounds_toArray, List.set_cons_succ, List.set_cons_zero]
  refine Ev.ev_step (v := .int .i64 ver) rfl rfl (gen_pure (freshAt_other _ (by decide)) (fun _ => by first | rfl | (go_simp; done) | (go_simp; rfl))) ?_
  simp only [Act.put, List.setIfInBounds_toArray, List.set_cons_succ, List.set_cons_zero]
  refine Ev.ev_step (v := .agg (fresh r e now ver).c) rfl rfl (gen_pure (freshAt_other _ (by decide)) (fun _ => by first | rfl | (go_simp; done) | (go_simp; rfl))) ?_
  simp only [Act.put, List.setIfInBounds_toArray, List.set_cons_succ, List.set_cons_zero]
  refine Ev.ev_step (v := undef) rfl rfl (gen_store (fresh r e now ver).c (fun S h => by unfold freshAt; rw [Ev.set_same h, if_pos rfl]) (fun S => by unfold freshAt; split <;> rfl) 38 (.tmp 11) (.tmp 26) rfl rfl rfl (by kernel_rfl) (ent_one _)) ?_
  simp only [Act.put]
  refine Ev.ev_nil (fun w_e hw_e => ?_)
  have hm := hw_e.mod
  have b4e := hw_e.blk
  rw [show freshAt (fresh r e now ver).c (Array.replicate _ true) = (fresh r e now ver).c by unfold freshAt; rw [all_bit (by decide), if_pos rfl]] at b4e
  clear hw_e c60 c52 c53 c58 b4
  replace b1 := hm.blk b1 (by omega)
  replace b2 := hm.blk b2 (by omega)
  replace b3 := hm.blk b3 (by omega)
  replace hB := hm.after hB hB.size (fun k hk => by omega)
  have b4 := b4e
  clear hm b4e
  have hr := HR.out
  have e3 : (r.verb == 3) = false := by rw [hr]; rfl
  have e4 : (r.verb == 4) = false := by rw [hr]; rfl
  have e5 : (r.verb == 5) = false := by rw [hr]; rfl
  have e6 : (r.verb == 6) = false := by rw [hr]; rfl
  have e7 : (r.verb == 7) = false := by rw [hr]; rfl
  have e8 : (r.verb == 8) = true := by rw [hr]; rfl
  have e9 : (r.verb == 9) = false := by rw [hr]; rfl
  have e10 : (r.verb == 10) = false := by rw [hr]; rfl
  have e11 : (r.verb == 11) = false := by rw [hr]; rfl
  have e12 : (r.verb == 12) = false := by rw [hr]; rfl
  have c50 : w_e.cell? ⟨w.heap.size, 0, none⟩ = some (.int .i64 r.verb) := blk_cell b1 0
  clear hr HR
  have c54 : w_e.cell? ⟨w.heap.size + 1, 4, none⟩ = some (.int .i64 e.cas) := blk_cell b2 4
  have c55 : w_e.cell? ⟨w.heap.size, 5, none⟩ = some (.int .i64 r.cas) := blk_cell b1 5
  have ec : (e.cas == r.cas) = true := by simp [HC.out]
  clear HC
  go_wp2
  clear e3 e4 e5 e6 e7 e8 e9 e10 e11 e12 c50 c54 c55 ec
  obtain ⟨W2, hW2⟩ : ∃ W2, W2 = w_e := ⟨_, rfl⟩
  rw [← hW2] at b1 b2 b3 b4 hB ⊢
  clear hW2
  refine Ev.region_ev (Ev.Two W2 (w.heap.size + 1 + 1) (w.heap.size + 1 + 1 + 1) 32 38 A0 (ans 2 0 ⟨#[]⟩) (fresh r e now ver).c (fresh r e now ver).c 2 3) (by kernel_rfl) (by kernel_rfl) (Ev.two_start b3 b4) ?_
  refine Ev.ev_step (v := .agg (ans 2 0 ⟨#[]⟩)) rfl rfl (Ev.two_call (by decide) (by decide) 41 #[.int .i64 2] (fun _ => by first | (go_simp; done) | (go_simp; rfl)) (fun w => refSay_calls 2 w)) ?_
  simp only [Act.put, List.setIfInBounds_toArray, List.set_cons_succ, List.set_cons_zero]
  refine Ev.ev_step (v := .agg (fresh r e now ver).c) rfl rfl (Ev.two_load2 (by decide) (by decide) 38 (.tmp 11) rfl rfl _ rfl Tryd.underlying38 rfl (by kernel_rfl)) ?_
  simp only [Act.put, List.setIfInBounds_toArray, List.set_cons_succ, List.set_cons_zero]
  refine Ev.ev_step (v := undef) rfl rfl (Ev.two_store1 (by decide) (by omega) 32 (.tmp 10) (.tmp 95) rfl rfl rfl rfl (by kernel_rfl) (ans_one _ _ _)) ?_
  simp only [Act.put]
  refine Ev.ev_step (v := undef) rfl rfl (Ev.two_store2 (by decide) (by omega) 38 (.tmp 11) (.tmp 96) rfl rfl rfl rfl (by kernel_rfl) (ent_one _)) ?_
  simp only [Act.put]
  refine Ev.ev_step (v := .bool true) rfl rfl (Ev.two_pure (by decide) (by decide) (fun _ => by rfl)) ?_
  simp only [Act.put, List.setIfInBounds_toArray, List.set_cons_succ, List.set_cons_zero]
  refine Ev.ev_step (v := .bool false) rfl rfl (Ev.two_pure (by decide) (by decide) (fun _ => by rfl)) ?_
  simp only [Act.put, List.setIfInBounds_toArray, List.set_cons_succ, List.set_cons_zero]
  refine Ev.ev_nil (fun w_e hw_e => ?_)
  obtain ⟨hM_e, hA_e, hX_e⟩ := Ev.two_end hw_e (by decide) (by decide)
  clear hw_e
  go_wp2
  refine bodyPost_ret (Ev.results_c3 rfl rfl hA_e Tryd.underlying32 rfl (by kernel_rfl) rfl hX_e Tryd.underlying38 rfl (by kernel_rfl) rfl rfl) rfl ⟨rfl, ?_⟩
  exact Mod.after hB hB.size hM_e (fun k hk => by omega)
set_option maxHeartbeats 4000000 in
set_option maxRecDepth 100000 in
theorem rnext_else (r : Rq) (kv : Value) (e : Ent) (there : Bool) (now ver : Int) (w : World) (hr : r.verb ≠ 3 ∧ r.verb ≠ 4 ∧ r.verb ≠ 5 ∧ r.verb ≠ 6 ∧ r.verb ≠ 7 ∧ r.verb ≠ 8 ∧ r.verb ≠ 9 ∧ r.verb ≠ 10 ∧ r.verb ≠ 11 ∧ r.verb ≠ 12) :
    Calls Tryd.prog 18 #[.agg (r.c kv), .agg e.c, .bool there, .int .i64 now, .int .i64 ver] w fun e_ w' => e_ = .returned (.tuple #[.agg (ans 0 0 ⟨#[]⟩), .agg (fresh r e now ver).c, .bool false, .bool false]) ∧ Below w.heap.size w w' := by
  have HR := Aside0.mk hr
  clear hr
  simp only [Rq.c, Ent.c]
  go_enter Tryd.func18, Tryd.ntmps18
  go_wp2
  obtain ⟨W, hW⟩ : ∃ W, W = (((w.alloc (.cells (r.c kv) 27)).alloc (.cells e.c 38)).alloc (.cells A0 32)).alloc (.cells E0 38) := ⟨_, rfl⟩
  obtain ⟨b1, b2, b3, b4, hB⟩ := four w (.cells (r.c kv) 27) (.cells e.c 38) (.cells A0 32) (.cells E0 38)
  change Code.wp _ _ _ _ ((((w.alloc (.cells (r.c kv) 27)).alloc (.cells e.c 38)).alloc (.cells A0 32)).alloc (.cells E0 38))
  rw [← hW] at b1 b2 b3 b4 hB ⊢
  clear hW
  have c60 : W.cell? ⟨w.heap.size + 1, 0, none⟩ = some (.string e.key) := blk_cell b2 0
  have c52 : W.cell? ⟨w.heap.size, 2, none⟩ = some (.int .i64 r.fl) := blk_cell b1 2
  have c53 : W.cell? ⟨w.heap.size, 3, none⟩ = some (.int .i64 r.exp) := blk_cell b1 3
  have c58 : W.cell? ⟨w.heap.size, 8, none⟩ = some (.string r.data) := blk_cell b1 8
  refine Ev.region_ev (Gen W (w.heap.size + 1 + 1 + 1) 38 (freshAt (fresh r e now ver).c)) (by kernel_rfl) (by kernel_rfl) (gen_start b4 (by unfold freshAt; rw [no_bit]; rfl)) ?_
  refine Ev.ev_step (v := .pointer (some ⟨(w.heap.size + 1), 0, none⟩)) rfl rfl (gen_pure (freshAt_other _ (by decide)) (fun _ => by first | rfl | (go_simp; done) | (go_simp; rfl))) ?_
  simp only [Act.put, List.setIfInBounds_toArray, List.set_cons_succ, List.set_cons_zero]
  refine Ev.ev_step (v := .string e.key) rfl rfl (gen_load (freshAt_other _ (by decide)) ⟨(w.heap.size + 1), 0, none⟩ (c60) (show (w.heap.size + 1) ≠ (w.heap.size + 1 + 1 + 1) by omega) (fun w hc => by go_simp)) ?_
  simp only [Act.put, List.setIfInBounds_toArray, List.set_cons_succ, List.set_cons_zero]
  refine Ev.ev_step (v := .pointer (some ⟨w.heap.size, 2, none⟩)) rfl rfl (gen_pure (freshAt_other _ (by decide)) (fun _ => by first | rfl | (go_simp; done) | (go_simp; rfl))) ?_
  simp only [Act.put, List.setIfInBounds_toArray, List.set_cons_succ, List.set_cons_zero]
  refine Ev.ev_step (v := .int .i64 r.fl) rfl rfl (gen_load (freshAt_other _ (by decide)) ⟨w.heap.size, 2, none⟩ (c52) (show w.heap.size ≠ (w.heap.size + 1 + 1 + 1) by omega) (fun w hc => by go_simp)) ?_
  simp only [Act.put, List.setIfInBounds_toArray, List.set_cons_succ, List.set_cons_zero]
  refine Ev.ev_step (v := .pointer (some ⟨w.heap.size, 3, none⟩)) rfl rfl (gen_pure (freshAt_other _ (by decide)) (fun _ => by first | rfl | (go_simp; done) | (go_simp; rfl))) ?_
  simp only [Act.put, List.setIfInBounds_toArray, List.set_cons_succ, List.set_cons_zero]
  refine Ev.ev_step (v := .int .i64 r.exp) rfl rfl (gen_load (freshAt_other _ (by decide)) ⟨w.heap.size, 3, none⟩ (c53) (show w.heap.size ≠ (w.heap.size + 1 + 1 + 1) by omega) (fun w hc => by go_simp)) ?_
  simp only [Act.put, List.setIfInBounds_toArray, List.set_cons_succ, List.set_cons_zero]
  refine Ev.ev_step (v := .int .i64 now) rfl rfl (gen_pure (freshAt_other _ (by decide)) (fun _ => by first | rfl | (go_simp; done) | (go_simp; rfl))) ?_
  simp only [Act.put, List.setIfInBounds_toArray, List.set_cons_succ, List.set_cons_zero]
  refine Ev.ev_step (v := .int .i64 (dead r.exp now)) rfl rfl (gen_call (freshAt_other _ (by decide)) 40 #[.int .i64 r.exp, .int .i64 now] (fun _ => by first | (go_simp; done) | (go_simp; rfl)) (fun w => refDead_calls _ _ w)) ?_
  simp only [Act.put, List.setIfInBounds_toArray, List.set_cons_succ, List.set_cons_zero]
  refine Ev.ev_step (v := .pointer (some ⟨w.heap.size, 8, none⟩)) rfl rfl (gen_pure (freshAt_other _ (by decide)) (fun _ => by first | rfl | (go_simp; done) | (go_simp; rfl))) ?_
  simp only [Act.put, List.setIfInBounds_toArray, List.set_cons_succ, List.set_cons_zero]
  refine Ev.ev_step (v := .string r.data) rfl rfl (gen_load (freshAt_other _ (by decide)) ⟨w.heap.size, 8, none⟩ (c58) (show w.heap.size ≠ (w.heap.size + 1 + 1 + 1) by omega) (fun w hc => by go_simp)) ?_
  simp only [Act.put, List.setIfInBounds_toArray, List.set_cons_succ, List.set_cons_zero]
  refine Ev.ev_step (v := .int .i64 ver) rfl rfl (gen_pure (freshAt_other _ (by decide)) (fun _ => by first | rfl | (go_simp; done) | (go_simp; rfl))) ?_
  simp only [Act.put, List.setIfInBounds_toArray, List.set_cons_succ, List.set_cons_zero]
  refine Ev.ev_step (v := .agg (fresh r e now ver).c) rfl rfl (gen_pure (freshAt_other _ (by decide)) (fun _ => by first | rfl | (go_simp; done) | (go_simp; rfl))) ?_
  simp only [Act.put, List.setIfInBounds_toArray, List.set_cons_succ, List.set_cons_zero]
  refine Ev.ev_step (v := undef) rfl rfl (gen_store (fresh r e now ver).c (fun S h => by unfold freshAt; rw [Ev.set_same h, if_pos rfl]) (fun S => by unfold freshAt; split <;> rfl) 38 (.tmp 11) (.tmp 26) rfl rfl rfl (by kernel_rfl) (ent_one _)) ?_
  simp only [Act.put]
  refine Ev.ev_nil (fun w_e hw_e => ?_)
  have hm := hw_e.mod
  have b4e := hw_e.blk
  rw [show freshAt (fresh r e now ver).c (Array.replicate _ true) = (fresh r e now ver).c by unfold freshAt; rw [all_bit (by decide), if_pos rfl]] at b4e
  clear hw_e c60 c52 c53 c58 b4
  replace b1 := hm.blk b1 (by omega)
  replace b2 := hm.blk b2 (by omega)
  replace b3 := hm.blk b3 (by omega)
  replace hB := hm.after hB hB.size (fun k hk => by omega)
  have b4 := b4e
  clear hm b4e
  obtain ⟨h3, h4, h5, h6, h7, h8, h9, h10, h11, h12⟩ := HR.out
  have e3 : (r.verb == 3) = false := beq_eq_false_iff_ne.2 h3
  have e4 : (r.verb == 4) = false := beq_eq_false_iff_ne.2 h4
  have e5 : (r.verb == 5) = false := beq_eq_false_iff_ne.2 h5
  have e6 : (r.verb == 6) = false := beq_eq_false_iff_ne.2 h6
  have e7 : (r.verb == 7) = false := beq_eq_false_iff_ne.2 h7
  have e8 : (r.verb == 8) = false := beq_eq_false_iff_ne.2 h8
  have e9 : (r.verb == 9) = false := beq_eq_false_iff_ne.2 h9
  have e10 : (r.verb == 10) = false := beq_eq_false_iff_ne.2 h10
  have e11 : (r.verb == 11) = false := beq_eq_false_iff_ne.2 h11
  have e12 : (r.verb == 12) = false := beq_eq_false_iff_ne.2 h12
  have c50 : w_e.cell? ⟨w.heap.size, 0, none⟩ = some (.int .i64 r.verb) := blk_cell b1 0
  clear HR h3 h4 h5 h6 h7 h8 h9 h10 h11 h12
  go_wp2
  clear e3 e4 e5 e6 e7 e8 e9 e10 e11 e12 c50
  obtain ⟨W2, hW2⟩ : ∃ W2, W2 = w_e := ⟨_, rfl⟩
  rw [← hW2] at b1 b2 b3 b4 hB ⊢
  clear hW2
  refine Ev.region_ev (Ev.Two W2 (w.heap.size + 1 + 1) (w.heap.size + 1 + 1 + 1) 32 38 A0 (ans 0 0 ⟨#[]⟩) (fresh r e now ver).c (fresh r e now ver).c 2 3) (by kernel_rfl) (by kernel_rfl) (Ev.two_start b3 b4) ?_
  refine Ev.ev_step (v := .agg (ans 0 0 ⟨#[]⟩)) rfl rfl (Ev.two_pure (by decide) (by decide) (fun _ => by first | (go_simp; done) | (go_simp; rfl))) ?_
  simp only [Act.put, List.setIfInBounds_toArray, List.set_cons_succ, List.set_cons_zero]
  refine Ev.ev_step (v := .agg (fresh r e now ver).c) rfl rfl (Ev.two_load2 (by decide) (by decide) 38 (.tmp 11) rfl rfl _ rfl Tryd.underlying38 rfl (by kernel_rfl)) ?_
  simp only [Act.put, List.setIfInBounds_toArray, List.set_cons_succ, List.set_cons_zero]
  refine Ev.ev_step (v := undef) rfl rfl (Ev.two_store1 (by decide) (by omega) 32 (.tmp 10) (.tmp 130) rfl rfl rfl rfl (by kernel_rfl) (ans_one _ _ _)) ?_
  simp only [Act.put]
  refine Ev.ev_step (v := undef) rfl rfl (Ev.two_store2 (by decide) (by omega) 38 (.tmp 11) (.tmp 131) rfl rfl rfl rfl (by kernel_rfl) (ent_one _)) ?_
  simp only [Act.put]
  refine Ev.ev_step (v := .bool false) rfl rfl (Ev.two_pure (by decide) (by decide) (fun _ => by rfl)) ?_
  simp only [Act.put, List.setIfInBounds_toArray, List.set_cons_succ, List.set_cons_zero]
  refine Ev.ev_step (v := .bool false) rfl rfl (Ev.two_pure (by decide) (by decide) (fun _ => by rfl)) ?_
  simp only [Act.put, List.setIfInBounds_toArray, List.set_cons_succ, List.set_cons_zero]
  refine Ev.ev_nil (fun w_e hw_e => ?_)
  obtain ⟨hM_e, hA_e, hX_e⟩ := Ev.two_end hw_e (by decide) (by decide)
  clear hw_e
  go_wp2
  refine bodyPost_ret (Ev.results_c3 rfl rfl hA_e Tryd.underlying32 rfl (by kernel_rfl) rfl hX_e Tryd.underlying38 rfl (by kernel_rfl) rfl rfl) rfl ⟨rfl, ?_⟩
  exact Mod.after hB hB.size hM_e (fun k hk => by omega)
end Go.Proofs.YtepklobkppdliaaDoor.Md
