/- The model: rows that are alike. -/
import Derived.Test.YtepklobkppdliaaDoorUMp1
import Derived.Test.YtepklobkppdliaaDoorUMk29
import Derived.Test.YtepklobkppdliaaDoorUAh
import Derived.BigQuiet
import Derived.Deep.LoopGhost
namespace Go.Proofs.YtepklobkppdliaaDoor.Mp
open Go.RowKit Go.Proofs.YtepklobkppdliaaDoorW.PrintWords Go.Proofs.YtepklobkppdliaaDoorW.PrintLast Go.Proofs.YtepklobkppdliaaDoorW.PrintMore Go.Proofs.YtepklobkppdliaaDoor.Lib Go.Proofs.YtepklobkppdliaaDoor.Open Go.Proofs.YtepklobkppdliaaDoor.Md
set_option maxHeartbeats 8000000 in
set_option maxRecDepth 100000 in
theorem same33 (A B : Option Addr) (cA cB : Nat) (L : List Ent) (w : World) (hA : Arg Rm.ecl w A L.length L) (hB : Arg Rm.ecl w B L.length L) :
    Calls Tryd.prog 33 #[.slice A L.length cA, .slice B L.length cB] w fun e w' => e = .returned (.bool true) ∧ Below w.heap.size w w' := by
  have HA := Aside0.mk hA
  have HB := Aside0.mk hB
  have hn63 : (L.length : Int) ≤ 9223372036854775807 := by have := hA.2.1; omega
  clear hA hB
  go_enter Tryd.func33, Tryd.ntmps33
  go_wp2
  go_loopg [5] L.length (fun R s wr => ∃ i : Nat, i + R = L.length ∧ s = .int .i64 (i : Int) ∧ Below w.heap.size w wr)
  case atStart => exact ⟨0, by omega, rfl, Below.refl _ _⟩
  case round =>
    obtain ⟨i, hi, rfl, hb⟩ := hrel
    have HI := Aside0.mk hi
    have HBW := Aside0.mk hb
    by_cases hlt : i < L.length
    · obtain ⟨x, hx⟩ : ∃ x, L[i]? = some x := ⟨_, List.getElem?_eq_getElem hlt⟩
      obtain ⟨qa, oa, rfl, ha⟩ := (HA.out.below hb).at_ Rm.ecl_len i x hx
      obtain ⟨qb, ob, rfl, hbb⟩ := (HB.out.below hb).at_ Rm.ecl_len i x hx
      have r1 : decide ((i : Int) < (L.length : Int)) = true := decide_eq_true (by omega)
      have r2 : (i : Int) < (L.length : Int) := by omega
      have r3 : (0 : Int) ≤ (i : Int) := by omega
      have a0 : wr.cell? ⟨qa, oa + i * 5, none⟩ = some (.string x.key) := ha 0 _ rfl
      have a1 : wr.cell? ⟨qa, oa + i * 5 + 1, none⟩ = some (.int .i64 x.fl) := ha 1 _ rfl
      have a2 : wr.cell? ⟨qa, oa + i * 5 + 2, none⟩ = some (.int .i64 x.dl) := ha 2 _ rfl
      have a3 : wr.cell? ⟨qa, oa + i * 5 + 3, none⟩ = some (.string x.val) := ha 3 _ rfl
      have a4 : wr.cell? ⟨qa, oa + i * 5 + 4, none⟩ = some (.int .i64 x.cas) := ha 4 _ rfl
      have b0 : wr.cell? ⟨qb, ob + i * 5, none⟩ = some (.string x.key) := hbb 0 _ rfl
      have b1 : wr.cell? ⟨qb, ob + i * 5 + 1, none⟩ = some (.int .i64 x.fl) := hbb 1 _ rfl
      have b2 : wr.cell? ⟨qb, ob + i * 5 + 2, none⟩ = some (.int .i64 x.dl) := hbb 2 _ rfl
      have b3 : wr.cell? ⟨qb, ob + i * 5 + 3, none⟩ = some (.string x.val) := hbb 3 _ rfl
      have b4 : wr.cell? ⟨qb, ob + i * 5 + 4, none⟩ = some (.int .i64 x.cas) := hbb 4 _ rfl
      have q38 := fun W => eq38 x W
      simp only [Ent.c] at q38
      clear ha hbb hi hb hx
      go_wp2
      go_quiet (fail)
      go_wp2
      go_roundg (L.length - (i + 1))
      case measure => have := HI.out; omega
      case rel => exact ⟨i + 1, by have := HI.out; omega, by go_num, by first | exact below_drew HBW.out | exact pw_below_drewN HBW.out _ | exact HBW.out⟩
    · have r1 : decide ((i : Int) < (L.length : Int)) = false := decide_eq_false (by omega)
      have r2 : ¬ (i : Int) < (L.length : Int) := by omega
      go_wp2
      go_ret
      exact ⟨rfl, HBW.out⟩
theorem eqA35e (d : Nat) (w : World) (x0 y0 : ByteArray) (x1 y1 : Int) (x2 y2 : ByteArray) (x3 y3 : Int) :
    (Op.equalIn (d + 2) 35 (.agg #[.string x0, .int .i64 x1, .string x2, .int .i64 x3]) (.agg #[.string y0, .int .i64 y1, .string y2, .int .i64 y3])).run Tryd.prog w = .ok (x0.toList == y0.toList && (x1 == y1 && (x2.toList == y2.toList && (x3 == y3)))) w := by
  refine eqA_of Tryd.underlying35 (by kernel_rfl) ?_
  refine eqf_cons (by rfl) (by go_simp; rfl) (by go_simp; rfl) (by go_simp) ?_
  refine eqf_cons (by rfl) (by go_simp; rfl) (by go_simp; rfl) (by go_simp) ?_
  refine eqf_cons (by rfl) (by go_simp; rfl) (by go_simp; rfl) (by go_simp) ?_
  exact eqf_last (by rfl) (by go_simp; rfl) (by go_simp; rfl) (by go_simp)
theorem eq35e (x : Ent) (w : World) : (Op.equalIn 10000 35 (.agg #[.string x.key, .int .i64 x.fl, .string x.val, .int .i64 x.cas]) (.agg #[.string x.key, .int .i64 x.fl, .string x.val, .int .i64 x.cas])).run Tryd.prog w = .ok true w := by
  have h := eqA35e 9998 w x.key x.key x.fl x.fl x.val x.val x.cas x.cas
  simp only [beq_self_eq_true, Bool.and_self] at h
  exact h
set_option maxHeartbeats 8000000 in
set_option maxRecDepth 100000 in
theorem same43 (A B : Option Addr) (cA cB : Nat) (L : List Ent) (w : World) (hA : Arg Rm.fcl w A L.length L) (hB : Arg Rm.fcl w B L.length L) :
    Calls Tryd.prog 43 #[.slice A L.length cA, .slice B L.length cB] w fun e w' => e = .returned (.bool true) ∧ Below w.heap.size w w' := by
  have HA := Aside0.mk hA
  have HB := Aside0.mk hB
  have hn63 : (L.length : Int) ≤ 9223372036854775807 := by have := hA.2.1; omega
  clear hA hB
  go_enter Tryd.func43, Tryd.ntmps43
  go_wp2
  go_loopg [5] L.length (fun R s wr => ∃ i : Nat, i + R = L.length ∧ s = .int .i64 (i : Int) ∧ Below w.heap.size w wr)
  case atStart => exact ⟨0, by omega, rfl, Below.refl _ _⟩
  case round =>
    obtain ⟨i, hi, rfl, hb⟩ := hrel
    have HI := Aside0.mk hi
    have HBW := Aside0.mk hb
    by_cases hlt : i < L.length
    · obtain ⟨x, hx⟩ : ∃ x, L[i]? = some x := ⟨_, List.getElem?_eq_getElem hlt⟩
      obtain ⟨qa, oa, rfl, ha⟩ := (HA.out.below hb).at_ Rm.fcl_len i x hx
      obtain ⟨qb, ob, rfl, hbb⟩ := (HB.out.below hb).at_ Rm.fcl_len i x hx
      have r1 : decide ((i : Int) < (L.length : Int)) = true := decide_eq_true (by omega)
      have r2 : (i : Int) < (L.length : Int) := by omega
      have r3 : (0 : Int) ≤ (i : Int) := by omega
      have a0 : wr.cell? ⟨qa, oa + i * 4, none⟩ = some (.string x.key) := ha 0 _ rfl
      have a1 : wr.cell? ⟨qa, oa + i * 4 + 1, none⟩ = some (.int .i64 x.fl) := ha 1 _ rfl
      have a2 : wr.cell? ⟨qa, oa + i * 4 + 2, none⟩ = some (.string x.val) := ha 2 _ rfl
      have a3 : wr.cell? ⟨qa, oa + i * 4 + 3, none⟩ = some (.int .i64 x.cas) := ha 3 _ rfl
      have b0 : wr.cell? ⟨qb, ob + i * 4, none⟩ = some (.string x.key) := hbb 0 _ rfl
      have b1 : wr.cell? ⟨qb, ob + i * 4 + 1, none⟩ = some (.int .i64 x.fl) := hbb 1 _ rfl
      have b2 : wr.cell? ⟨qb, ob + i * 4 + 2, none⟩ = some (.string x.val) := hbb 2 _ rfl
      have b3 : wr.cell? ⟨qb, ob + i * 4 + 3, none⟩ = some (.int .i64 x.cas) := hbb 3 _ rfl
      have q35 := fun W => eq35e x W
      clear ha hbb hi hb hx
      go_wp2
      go_quiet (fail)
      go_wp2
      go_roundg (L.length - (i + 1))
      case measure => have := HI.out; omega
      case rel => exact ⟨i + 1, by have := HI.out; omega, by go_num, by first | exact below_drew HBW.out | exact pw_below_drewN HBW.out _ | exact HBW.out⟩
    · have r1 : decide ((i : Int) < (L.length : Int)) = false := decide_eq_false (by omega)
      have r2 : ¬ (i : Int) < (L.length : Int) := by omega
      go_wp2
      go_ret
      exact ⟨rfl, HBW.out⟩
/-- An answer with values. -/
def anA (k : Int) (v : Value) (ge : Bool) (n : Int) (t : ByteArray) : Array Value := #[.int .i64 k, v, .bool ge, .int .u64 n, .string t, .int .i64 0, .int .i64 0, .int .i64 0, .int .i64 0]
set_option maxHeartbeats 4000000 in
set_option maxRecDepth 100000 in
theorem answers_any (k n : Int) (t : ByteArray) (ge : Bool) (A B : Option Addr) (cA cB : Nat) (L : List Ent) (w : World) (hA : Arg Rm.fcl w A L.length L) (hB : Arg Rm.fcl w B L.length L) : Calls Tryd.prog 19 #[.agg (anA k (.slice A L.length cA) ge n t), .agg (anA k (.slice B L.length cB) ge n t)] w fun e w' => e = .returned (.bool true) ∧ Below w.heap.size w w' := by
  have HA := Aside0.mk hA
  have HBB := Aside0.mk hB
  clear hA hB
  simp only [anA]
  go_enter Tryd.func19, Tryd.ntmps19
  go_wp2_with fail
  have hbb := below_alloc (below_alloc (Below.refl w.heap.size w) (.cells (anA k (.slice A L.length cA) ge n t) 32)) (.cells (anA k (.slice B L.length cB) ge n t) 32)
  refine (same43 A B cA cB L _ (HA.out.below hbb) (HBB.out.below hbb)).mono ?_
  rintro e_1 w_1 ⟨rfl, hb⟩
  have s1 : (w.alloc (.cells (anA k (.slice A L.length cA) ge n t) 32)).heap.size = w.heap.size + 1 := by simp
  have b1 := (hb.block w.heap.size (by simp; omega)).trans (blk_alloc (blk_new w (.cells (anA k (.slice A L.length cA) ge n t) 32)) (.cells (anA k (.slice B L.length cB) ge n t) 32))
  have b2 := (hb.block (w.heap.size + 1) (by simp)).trans (show ((w.alloc (.cells (anA k (.slice A L.length cA) ge n t) 32)).alloc (.cells (anA k (.slice B L.length cB) ge n t) 32)).heap[w.heap.size + 1]? = some (.cells (anA k (.slice B L.length cB) ge n t) 32) by rw [← s1]; exact blk_new _ _)
  have HB := Aside0.mk (below_step hbb hb)
  have c12 : w_1.cell? ⟨w.heap.size, 2, none⟩ = some (.bool ge) := blk_cell b1 2
  have c13 : w_1.cell? ⟨w.heap.size, 3, none⟩ = some (.int .u64 n) := blk_cell b1 3
  have c14 : w_1.cell? ⟨w.heap.size, 4, none⟩ = some (.string t) := blk_cell b1 4
  have c15 : w_1.cell? ⟨w.heap.size, 5, none⟩ = some (.int .i64 0) := blk_cell b1 5
  have c16 : w_1.cell? ⟨w.heap.size, 6, none⟩ = some (.int .i64 0) := blk_cell b1 6
  have c17 : w_1.cell? ⟨w.heap.size, 7, none⟩ = some (.int .i64 0) := blk_cell b1 7
  have c18 : w_1.cell? ⟨w.heap.size, 8, none⟩ = some (.int .i64 0) := blk_cell b1 8
  have c22 : w_1.cell? ⟨w.heap.size + 1, 2, none⟩ = some (.bool ge) := blk_cell b2 2
  have c23 : w_1.cell? ⟨w.heap.size + 1, 3, none⟩ = some (.int .u64 n) := blk_cell b2 3
  have c24 : w_1.cell? ⟨w.heap.size + 1, 4, none⟩ = some (.string t) := blk_cell b2 4
  have c25 : w_1.cell? ⟨w.heap.size + 1, 5, none⟩ = some (.int .i64 0) := blk_cell b2 5
  have c26 : w_1.cell? ⟨w.heap.size + 1, 6, none⟩ = some (.int .i64 0) := blk_cell b2 6
  have c27 : w_1.cell? ⟨w.heap.size + 1, 7, none⟩ = some (.int .i64 0) := blk_cell b2 7
  have c28 : w_1.cell? ⟨w.heap.size + 1, 8, none⟩ = some (.int .i64 0) := blk_cell b2 8
  clear hb b1 b2 s1 hbb
  have q30 := eq30
  go_wp2
  go_ret
  exact ⟨rfl, HB.out⟩
section
variable {ops : Array Oper} {rest : List Oper} {o : Oper} {a : Act} {Q : Exit → Act → World → Prop} {W : World} {b n : Nat} {D : DataW Unit}
theorem ev_del (x y : Operand) (ho : o.op = .call { callee := .builtin .delete, args := #[x, y], argTypes := #[80, 9] }) (hg : o.guard = none) (hx : a.eval x = .map (some b)) (k : ByteArray) (hy : a.eval y = .string k) (hD : W.ownsMap Tryd.prog 9 entR b n D) (hk : k.size ≤ maxLen)
    (h : ∀ w', w'.ownsMap Tryd.prog 9 entR b n (D.del (keyL k)) → Mod (fun q => q = b) W w' → wpList Tryd.prog ops Q rest (a.put o.dst (.tuple #[])) w') : wpList Tryd.prog ops Q (o :: rest) a W := by
  refine wpList_plain hg fun K' hK' => ?_
  obtain ⟨w', hrun, r1, r2⟩ := hD.drop keyLaw Tryd.underlying80 (key_of k hk) o.type
  unfold Oper.wp
  simp [execOp, ho, resolve, invoke, builtin, hx, hy, hrun, Result.andThen]
  exact hK' _ _ (h w' r1 ((Mod.of_grown r2.grown).mono (fun q hq => by injection hq)))
theorem ev_len (x : Operand) (ho : o.op = .call { callee := .builtin .len, args := #[x], argTypes := #[80] }) (hg : o.guard = none) (hx : a.eval x = .map (some b)) (hD : W.ownsMap Tryd.prog 9 entR b n D)
    (h : wpList Tryd.prog ops Q rest (a.put o.dst (.int .i64 (Maps.size D : Int))) W) : wpList Tryd.prog ops Q (o :: rest) a W := wpList_len_own W hg x 80 ho 9 38 Tryd.underlying80 entR b n D hx hD h
end
set_option maxHeartbeats 4000000 in
set_option maxRecDepth 100000 in
/-- Forget tells whether there was an entry. -/
theorem mforget_calls (g b n : Nat) (f : ByteArray → Option Ent) (k : ByteArray) (w : World) (h : Md w g b n f) (hk : k.size ≤ maxLen) :
    Calls Tryd.prog 23 #[.pointer (some ⟨g, 0, none⟩), .string k] w fun e w' => e = .returned (.bool (f k).isSome) ∧ Md w' g b n (upd f k none) ∧ Mod (fun q => q = b) w w' := by
  have c0 : w.cell? ⟨g, 0, none⟩ = some (.map (some b)) := blk_cell h.blk 0
  obtain ⟨D, hD, hf⟩ := h.mp
  have htd := Maps.size_del (k := keyL k) (hD.tidy keyLaw)
  rw [(hf k).1] at htd
  obtain ⟨s1, hs1⟩ : ∃ s, s = Maps.size D := ⟨_, rfl⟩
  obtain ⟨s2, hs2⟩ : ∃ s, s = Maps.size (D.del (keyL k)) := ⟨_, rfl⟩
  rw [← hs1, ← hs2] at htd
  have HM := Aside0.mk h
  have HD := Aside0.mk hD
  have HF := Aside0.mk hf
  have HK := Aside0.mk hk
  have HS1 := Aside0.mk hs1
  have HS2 := Aside0.mk hs2
  have HT := Aside0.mk (show decide (s2 < s1) = (f k).isSome by
    cases hx : (f k).isSome
    · rw [hx] at htd
      simp at htd
      exact decide_eq_false (by omega)
    · rw [hx] at htd
      simp at htd
      exact decide_eq_true (by omega))
  clear h hk hD hf htd hs1 hs2
  go_enter Tryd.func23, Tryd.ntmps23
  go_wp2_with (first | (refine gate_ (.call { callee := .builtin .len, args := #[.tmp 9], argTypes := #[80] }) rfl ?_; refine ev_len (.tmp 9) rfl rfl rfl HD.out ?_; rw [← HS1.out]) | (refine gate_ (.call { callee := .builtin .len, args := #[.tmp 19], argTypes := #[80] }) rfl ?_; refine ev_len (.tmp 19) rfl rfl rfl HD2.out ?_; rw [← HS2.out]) | (refine gate_ (.call { callee := .builtin .delete, args := #[.tmp 14, .tmp 15], argTypes := #[80, 9] }) rfl ?_; refine ev_del (.tmp 14) (.tmp 15) rfl rfl rfl k rfl HD.out HK.out ?_; intro w_3 hp hm; have HD2 := Aside0.mk hp; have HMM := Aside0.mk hm; have hbl := hm.blk HM.out.blk (fun e => HM.out.ne e.symm); have HBL := Aside0.mk hbl; have c1 : w_3.cell? ⟨g, 0, none⟩ = some (.map (some b)) := blk_cell hbl 0; clear hp hm hbl))
  go_ret
  refine ⟨by rw [← HT.out]; rfl, ⟨HBL.out, ⟨_, HD2.out, fun j => ?_⟩, upd_vs HM.out.vs k none (fun e he => by cases he)⟩, HMM.out⟩
  unfold upd
  by_cases hj : j = k
  · subst hj
    rw [if_pos rfl, Maps.has_del_same]
    exact ⟨rfl, fun x hx => by cases hx⟩
  · rw [if_neg hj, Maps.has_del_other (fun e => hj (keyL_inj e)), Maps.atKey_del_other (fun e => hj (keyL_inj e))]
    exact HF.out j
end Go.Proofs.YtepklobkppdliaaDoor.Mp
