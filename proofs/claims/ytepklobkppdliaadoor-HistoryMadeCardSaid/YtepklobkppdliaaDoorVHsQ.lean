/- The history: is anything left? The history: from. The history: Contains, Clone. The history: the calls of a key. The history: Check. The history: events; is. The history: HistoryRuns. -/
import Derived.Test.YtepklobkppdliaaDoorVHsP
import Derived.Deep.LoopGhost
namespace Go.Proofs.YtepklobkppdliaaDoor.Hs
open Go.RowKit Go.Proofs.YtepklobkppdliaaDoorW.PrintWords Go.Proofs.YtepklobkppdliaaDoorW.PrintLast Go.Proofs.YtepklobkppdliaaDoorW.PrintMore Go.Proofs.YtepklobkppdliaaDoor.Lib Go.Proofs.YtepklobkppdliaaDoor.Open Go.Proofs.YtepklobkppdliaaDoor.Md
open Go.Maps (Keyed IsMap)
/-- Is one of the first k left? -/
def leftK (d : Nat) (ops : List Opn) : Nat → Bool
  | 0 => false
  | k + 1 => leftK d ops k || (match ops[k]? with | some o => decide (0 ≤ o.ti) && !d.testBit k | none => false)
theorem leftK_spec (d : Nat) (ops : List Opn) : ∀ k, leftK d ops k = true ↔ ∃ j o, j < k ∧ ops[j]? = some o ∧ 0 ≤ o.ti ∧ d.testBit j = false
  | 0 => by simp [leftK]
  | k + 1 => by
    unfold leftK
    rw [Bool.or_eq_true, leftK_spec d ops k]
    constructor
    · rintro (⟨j, o, h1, h2⟩ | h)
      · exact ⟨j, o, by omega, h2⟩
      · cases ho : ops[k]? with
        | none => rw [ho] at h; cases h
        | some o =>
          rw [ho] at h
          simp only [Bool.and_eq_true, decide_eq_true_eq, Bool.not_eq_true'] at h
          exact ⟨k, o, by omega, ho, h.1, h.2⟩
    · rintro ⟨j, o, h1, h2, h3, h4⟩
      by_cases hj : j = k
      · subst hj
        right
        rw [h2]
        simp [h3, h4]
      · exact .inl ⟨j, o, by omega, h2, h3, h4⟩
theorem leftB_spec (d : Nat) (ops : List Opn) : leftB ops d = true ↔ ∃ j o, ops[j]? = some o ∧ 0 ≤ o.ti ∧ d.testBit j = false := by
  unfold leftB
  rw [List.any_eq_true]
  constructor
  · rintro ⟨p, hp, h⟩
    obtain ⟨k, hk, e⟩ := List.mem_iff_getElem.1 hp
    have h2 := List.getElem?_eq_getElem hk
    rw [e, List.getElem?_zipIdx] at h2
    obtain ⟨y, hy, e2⟩ := Option.map_eq_some_iff.1 h2
    simp only [Bool.and_eq_true, decide_eq_true_eq, Bool.not_eq_true'] at h
    rw [← e2] at h
    simp only [Nat.zero_add] at h
    exact ⟨k, y, hy, h.1, h.2⟩
  · rintro ⟨j, o, h1, h2, h3⟩
    refine ⟨(o, j), List.mem_of_getElem? (i := j) (by rw [List.getElem?_zipIdx, h1]; simp), ?_⟩
    simp [h2, h3]
theorem leftK_all (d : Nat) (ops : List Opn) : leftK d ops ops.length = leftB ops d := by
  rw [Bool.eq_iff_iff, leftK_spec, leftB_spec]
  constructor
  · rintro ⟨j, o, _, h⟩; exact ⟨j, o, h⟩
  · rintro ⟨j, o, h1, h2⟩; exact ⟨j, o, (List.getElem?_eq_some_iff.1 h1).1, h1, h2⟩
theorem cnt_zero : ∀ (N d : Nat), cnt N d = 0 → ∀ k, k < N → d.testBit k = true
  | N + 1, d, h, k, hk => by
    unfold cnt at h
    by_cases hkN : k = N
    · subst hkN
      cases ht : d.testBit k
      · rw [ht] at h; simp at h
      · rfl
    · exact cnt_zero N d (by omega) k (by omega)
theorem from_done {key : ByteArray} {ops : List Opn} {d : Nat} (h : leftB ops d = false) (e : En) : ∀ m, fromB key ops m d e = true
  | 0 => rfl
  | m + 1 => by unfold fromB; rw [h]; rfl
theorem left_of_cnt {ops : List Opn} {d : Nat} (h : cnt ops.length d = 0) : leftB ops d = false := by
  rw [Bool.eq_false_iff]
  intro h2
  obtain ⟨j, o, h3, _, h4⟩ := (leftB_spec d ops).1 h2
  rw [cnt_zero _ d h j (List.getElem?_eq_some_iff.1 h3).1] at h4
  cases h4
def nextB (key : ByteArray) (ops : List Opn) (m : Nat) (d : Nat) (e : En) (i : Nat) : Bool := mayB ops i d && (tryG (fromB key ops m) key ops i d e || tryG (fromB key ops m) key ops i d z104)
theorem from_left {key : ByteArray} {ops : List Opn} {d : Nat} (h : leftB ops d = true) (e : En) (m : Nat) : fromB key ops (m + 1) d e = (List.range ops.length).any (nextB key ops m d e) := by
  show (!leftB ops d || (List.range ops.length).any (nextB key ops m d e)) = _
  rw [h]
  rfl
theorem from_yes {key : ByteArray} {ops : List Opn} {d : Nat} (h : leftB ops d = true) (e : En) (m i : Nat) (hi : i < ops.length) (hn : nextB key ops m d e i = true) : fromB key ops (m + 1) d e = true := by
  rw [from_left h, List.any_eq_true]
  exact ⟨i, List.mem_range.2 hi, hn⟩
theorem from_no {key : ByteArray} {ops : List Opn} {d : Nat} (h : leftB ops d = true) (e : En) (m : Nat) (hn : ∀ i, i < ops.length → nextB key ops m d e i = false) : fromB key ops (m + 1) d e = false := by
  rw [from_left h, List.any_eq_false]
  intro i hi
  rw [hn i (List.mem_range.1 hi)]
  decide
theorem may_bit {ops : List Opn} {i d : Nat} (h : mayB ops i d = true) : d.testBit i = false := by
  unfold mayB at h
  rw [Bool.and_eq_true, Bool.not_eq_true'] at h
  exact h.1
/-- The first loop: k calls were looked at. -/
def LeftAt (w0 : World) (ops : List Opn) (d : Nat) (e : En) (R : Nat) (s7 s19 : Value) (wr : World) : Prop :=
  ∃ k : Nat, k + R = ops.length ∧ s19 = .int .i64 (k : Int) ∧ s7 = .bool (leftK d ops k) ∧ wr.heap[w0.heap.size]? = some (.cells e.c 104 (0, 0)) ∧ Below w0.heap.size w0 wr
theorem LeftAt.step {w0 wr w1 : World} {ops : List Opn} {d k gk : Nat} {e : En} {o : Opn} (hk : k + gk = ops.length) (ho : ops[k]? = some o) (h5 : wr.heap[w0.heap.size]? = some (.cells e.c 104 (0, 0))) (hB : Below w0.heap.size w0 wr) (v : Bool) (hv : v = (leftK d ops k || (decide (0 ≤ o.ti) && !d.testBit k))) (j : Int) (hj : j = (k : Int) + 1) (hb : Below wr.heap.size wr w1) :
    LeftAt w0 ops d e (ops.length - (k + 1)) (.bool v) (.int .i64 j) w1 := by
  have hl := (List.getElem?_eq_some_iff.1 ho).1
  refine ⟨k + 1, by omega, by rw [hj]; rfl, ?_, (hb.block _ (blk_lt h5)).trans h5, below_step hB hb⟩
  have : leftK d ops (k + 1) = (leftK d ops k || (decide (0 ≤ o.ti) && !d.testBit k)) := by
    show (leftK d ops k || (match ops[k]? with | some o => decide (0 ≤ o.ti) && !d.testBit k | none => false)) = _
    rw [ho]
  rw [hv, this]
set_option maxHeartbeats 16000000 in
set_option maxRecDepth 100000 in
theorem from_calls0 (g b : Nat) (key : ByteArray) (A : Option Addr) (cap : Nat) (ops : List Opn) (hl : ops.length ≤ 10)
    (d : Nat) (e : En) (w : World) (n : Nat) (hd : d < 1024) (hS : Se w g b n key A cap ops) (hL : leftB ops d = false) :
    Calls Tryd.prog 46 #[.pointer (some ⟨g, 0, none⟩), .int .i64 (d : Int), .agg e.c] w fun e_ w' => e_ = .returned (.bool true) ∧ Below w.heap.size w w' := by
  have HS := Aside0.mk hS
  have HD := Aside0.mk hd
  have HL := Aside0.mk hL
  have hd1 : (d : Int) < 1024 := by omega
  obtain ⟨N, hN⟩ : ∃ N, N = ops.length := ⟨_, rfl⟩
  have HN := Aside0.mk hN
  have hl1 : (N : Int) ≤ 10 := by omega
  have c1 : ∀ o_, (w.alloc o_).cell? ⟨g, 1, none⟩ = some (.slice A N cap) := fun o_ => by rw [hN]; exact blk_cell (blk_alloc hS.sq.blk o_) 1
  have HB0 := Aside0.mk (show ∀ o_, Below w.heap.size w (w.alloc o_) from fun o_ => below_alloc (Below.refl _ _) o_)
  clear hS hd hL hl hN
  simp only [En.c]
  go_enter Tryd.func46, Tryd.ntmps46
  go_wp2
  go_loopg [7, 19] N (fun R s7 s19 wr => LeftAt w ops d e R s7 s19 wr)
  case atStart => exact ⟨0, by rw [HN.out]; omega, rfl, rfl, blk_new w (.cells e.c 104), HB0.out _⟩
  case round =>
    obtain ⟨k, hk, rfl, rfl, h5, hB⟩ := hrel
    have HK := Aside0.mk hk
    have H5 := Aside0.mk h5
    have HB := Aside0.mk hB
    obtain ⟨P, hP0⟩ : ∃ P, P = leftK d ops k := ⟨_, rfl⟩
    have HP := Aside0.mk hP0
    rw [← hP0]
    by_cases hlt : k < N
    · obtain ⟨y, hy⟩ : ∃ y, ops[k]? = some y := ⟨_, List.getElem?_eq_getElem (by have := HN.out; omega)⟩
      obtain ⟨q, off, rfl, hr⟩ := (HS.out.sq.arg.below HB.out).at_ op_len k y hy
      have HY1 := Aside0.mk (op_one y (HS.out.sq.kvs y (List.mem_of_getElem? hy)))
      have HY := Aside0.mk hy
      have HR := Aside0.mk hr
      have r1 : decide ((k : Int) < (N : Int)) = true := decide_eq_true (by omega)
      have r2 : (k : Int) < (N : Int) := by omega
      have hk10 : (k : Int) < 10 := by omega
      have hbk := bit_at d HD.out k (by omega)
      have HQ0 : Aside0 (∀ b1 b2, d.testBit k = b2 → decide (0 ≤ y.ti) = b1 → (leftK d ops k || (decide (0 ≤ y.ti) && !d.testBit k)) = (P || (b1 && !b2))) := ⟨fun b1 b2 e1 e2 => by rw [e1, e2, HP.out]⟩
      clear hk h5 hB hP0 hy hr hlt
      cases P
      · by_cases h0 : 0 ≤ y.ti
        · have b1 : decide (0 ≤ y.ti) = true := decide_eq_true h0
          cases ht : d.testBit k
          · rw [ht, if_neg (by decide)] at hbk
            have b0 : (bits BinOp.and IntKind.i64 ((d : Int) / 2 ^ k) 1 == 0) = true := by rw [hbk]; rfl
            have HQ := Aside0.mk (HQ0.out true false ht b1).symm
            clear hbk ht h0
            go_wp2_with (first | (refine gate_ (.load 97 (.tmp 22)) rfl ?_; refine ev_load_mid (.load 97 (.tmp 22)) rfl rfl 97 (.tmp 22) rfl q (off + k * 20) ?x1 y.c _ HR.out Tryd.underlying97 rfl ?x3 ?_; (case x1 => rfl); (case x3 => kernel_rfl)) | (refine gate_ (.store 97 (.tmp 9) (.tmp 23)) rfl ?_; refine ev_store_row (.store 97 (.tmp 9) (.tmp 23)) rfl rfl rfl 97 (.tmp 9) (.tmp 23) rfl wr.heap.size y.c.toArray rfl rfl 97 Z97 (blk_new wr (.cells Z97 97)) ?y1 rfl HY1.out ?_; (case y1 => kernel_rfl); intro w_1 hw1 hm1; have HB1 := Aside0.mk (fresh_blk hm1); have k1 : w_1.cell? ⟨wr.heap.size, 1, none⟩ = some (.int .i64 y.ti) := blk_cell hw1 1; clear hw1 hm1))
            go_roundg (ops.length - (k + 1))
            case measure => have := HK.out; have := HN.out; omega
            case rel => exact LeftAt.step HK.out HY.out H5.out HB.out _ HQ.out _ rfl HB1.out
          · rw [ht, if_pos rfl] at hbk
            have b0 : (bits BinOp.and IntKind.i64 ((d : Int) / 2 ^ k) 1 == 0) = false := by rw [hbk]; rfl
            have HQ := Aside0.mk (HQ0.out true true ht b1).symm
            clear hbk ht h0
            go_wp2_with (first | (refine gate_ (.load 97 (.tmp 22)) rfl ?_; refine ev_load_mid (.load 97 (.tmp 22)) rfl rfl 97 (.tmp 22) rfl q (off + k * 20) ?x1 y.c _ HR.out Tryd.underlying97 rfl ?x3 ?_; (case x1 => rfl); (case x3 => kernel_rfl)) | (refine gate_ (.store 97 (.tmp 9) (.tmp 23)) rfl ?_; refine ev_store_row (.store 97 (.tmp 9) (.tmp 23)) rfl rfl rfl 97 (.tmp 9) (.tmp 23) rfl wr.heap.size y.c.toArray rfl rfl 97 Z97 (blk_new wr (.cells Z97 97)) ?y1 rfl HY1.out ?_; (case y1 => kernel_rfl); intro w_1 hw1 hm1; have HB1 := Aside0.mk (fresh_blk hm1); have k1 : w_1.cell? ⟨wr.heap.size, 1, none⟩ = some (.int .i64 y.ti) := blk_cell hw1 1; clear hw1 hm1))
            go_roundg (ops.length - (k + 1))
            case measure => have := HK.out; have := HN.out; omega
            case rel => exact LeftAt.step HK.out HY.out H5.out HB.out _ HQ.out _ rfl HB1.out
        · have b1 : decide (0 ≤ y.ti) = false := decide_eq_false h0
          have HQ := Aside0.mk (HQ0.out false (d.testBit k) rfl b1).symm
          clear hbk h0
          go_wp2_with (first | (refine gate_ (.load 97 (.tmp 22)) rfl ?_; refine ev_load_mid (.load 97 (.tmp 22)) rfl rfl 97 (.tmp 22) rfl q (off + k * 20) ?x1 y.c _ HR.out Tryd.underlying97 rfl ?x3 ?_; (case x1 => rfl); (case x3 => kernel_rfl)) | (refine gate_ (.store 97 (.tmp 9) (.tmp 23)) rfl ?_; refine ev_store_row (.store 97 (.tmp 9) (.tmp 23)) rfl rfl rfl 97 (.tmp 9) (.tmp 23) rfl wr.heap.size y.c.toArray rfl rfl 97 Z97 (blk_new wr (.cells Z97 97)) ?y1 rfl HY1.out ?_; (case y1 => kernel_rfl); intro w_1 hw1 hm1; have HB1 := Aside0.mk (fresh_blk hm1); have k1 : w_1.cell? ⟨wr.heap.size, 1, none⟩ = some (.int .i64 y.ti) := blk_cell hw1 1; clear hw1 hm1))
          go_roundg (ops.length - (k + 1))
          case measure => have := HK.out; have := HN.out; omega
          case rel => exact LeftAt.step HK.out HY.out H5.out HB.out _ HQ.out _ rfl HB1.out
      · have HQ : Aside0 (true = (leftK d ops k || (decide (0 ≤ y.ti) && !d.testBit k))) := ⟨((HQ0.out (decide (0 ≤ y.ti)) (d.testBit k) rfl rfl).trans (Bool.true_or _)).symm⟩
        clear hbk
        go_upto_region 5 with (first | (refine gate_ (.load 97 (.tmp 22)) rfl ?_; refine ev_load_mid (.load 97 (.tmp 22)) rfl rfl 97 (.tmp 22) rfl q (off + k * 20) ?x1 y.c _ HR.out Tryd.underlying97 rfl ?x3 ?_; (case x1 => rfl); (case x3 => kernel_rfl)) | (refine gate_ (.store 97 (.tmp 9) (.tmp 23)) rfl ?_; refine ev_store_row (.store 97 (.tmp 9) (.tmp 23)) rfl rfl rfl 97 (.tmp 9) (.tmp 23) rfl wr.heap.size y.c.toArray rfl rfl 97 Z97 (blk_new wr (.cells Z97 97)) ?y1 rfl HY1.out ?_; (case y1 => kernel_rfl); intro w_1 hw1 hm1; have HB1 := Aside0.mk (fresh_blk hm1); have k1 : w_1.cell? ⟨wr.heap.size, 1, none⟩ = some (.int .i64 y.ti) := blk_cell hw1 1; clear hw1 hm1))
        have hmU : (match (some undef : Option Value) with | some (.bool b) => some b | _ => none) = none := rfl
        go_upto_region 6 with fail
        clear hmU
        go_wp2
        go_roundg (ops.length - (k + 1))
        case measure => have := HK.out; have := HN.out; omega
        case rel => exact LeftAt.step HK.out HY.out H5.out HB.out _ HQ.out _ rfl HB1.out
    · obtain rfl : k = N := by have := HN.out; omega
      have hP : P = false := by rw [HP.out, show k = ops.length from HN.out, leftK_all]; exact HL.out
      subst hP
      have r1 : decide ((k : Int) < (k : Int)) = false := decide_eq_false (by omega)
      clear hk h5 hB hlt hP0
      go_wp2
      go_ret
      exact ⟨rfl, HB.out⟩
end Go.Proofs.YtepklobkppdliaaDoor.Hs
namespace Go.Proofs.YtepklobkppdliaaDoor.Hs
open Go.RowKit Go.Proofs.YtepklobkppdliaaDoorW.PrintWords Go.Proofs.YtepklobkppdliaaDoorW.PrintLast Go.Proofs.YtepklobkppdliaaDoorW.PrintMore Go.Proofs.YtepklobkppdliaaDoor.Lib Go.Proofs.YtepklobkppdliaaDoor.Open Go.Proofs.YtepklobkppdliaaDoor.Md
open Go.Maps (Keyed IsMap)
theorem pow_mod {W W' : World} (h : Pow W) {S : Nat → Prop} (hm : Mod S W W') (h0 : ¬ S 0) : Pow W' := by
  have hlt : 0 < W.heap.size := by
    unfold Md.Pow Lib.TabIs World.var? at h
    rw [powGlobal] at h
    rcases Nat.lt_or_ge 0 W.heap.size with h' | h'
    · exact h'
    · rw [Option.bind_some, Array.getElem?_eq_none h'] at h
      simp at h
  unfold Md.Pow Lib.TabIs World.var? at h ⊢
  rw [powGlobal] at h ⊢
  rw [Option.bind_some] at h ⊢
  rw [hm.block 0 hlt h0]
  exact h
theorem ne_of_lt2 {a b : Nat} (h : b < a) : ¬ a = b := fun e => by omega
def tkc (d : Nat) (e : En) : Array Value := #[.int .i64 (d : Int), .bool e.there, .int .i64 e.fl, .string e.val]
theorem one_read {P : Program} {md : Region.Mode} {o : Oper} {a : Act} {W : World} {t : TypeId} {n ia ib i : Nat} {X : Array Value} {v : Value} (h1 : i ≠ ia) (h2 : i ≠ ib) (hr : ∀ w, Mod (fun q => q = W.heap.size) W w → (execOp a.eval o).run P w = .ok (.value v) w) : Ev.Does P md (Ev.One W t n X ia ib) i o a v := fun S w h0 _ hC => by
  rw [hr w hC.mod]
  exact ⟨rfl, Ev.one_idle h1 h2 S w h0 hC⟩
theorem run_lookup_of {P : Program} {o : Oper} {a : Act} {w : World} {t : TypeId} {x y : Operand} {u v r : Value} (ho : o.op = .lookup t x y true) (hx : a.eval x = u) (hy : a.eval y = v) (h : (Instr.lookup t u v true).run P w = .ok r w) : (execOp a.eval o).run P w = .ok (.value r) w := by
  unfold execOp
  simp [ho, hx, hy, h, Result.andThen]
/-- The second loop: i calls were tried. -/
def FromLoop (w0 : World) (g b n : Nat) (key : ByteArray) (A : Option Addr) (cap : Nat) (ops : List Opn) (m d : Nat) (e : En) (gk : Nat) (R : Nat) (s : Value) (wr : World) : Prop :=
  ∃ i : Nat, i + R = ops.length ∧ s = .int .i64 (i : Int) ∧ (∀ j, j < i → nextB key ops m d e j = false) ∧ Se wr g b (n + i * (4 * gain m)) key A cap ops ∧ Mod (fun q => q = b) w0 wr ∧
    wr.heap[w0.heap.size]? = some (.cells e.c 104 (0, 0)) ∧ wr.heap[gk]? = some (.cells (tkc d e) 128 (0, 0))
theorem FromLoop.step {w0 w1 : World} {g b n : Nat} {key : ByteArray} {A : Option Addr} {cap : Nat} {ops : List Opn} {m d : Nat} {e : En} {gk i gi : Nat} (hi : i + gi = ops.length) (hall : ∀ j, j < i → nextB key ops m d e j = false) (hn : nextB key ops m d e i = false) (j : Int) (hj : j = (i : Int) + 1) (hlt : i < ops.length)
    (hS : Se w1 g b (n + (i + 1) * (4 * gain m)) key A cap ops) (hM : Mod (fun q => q = b) w0 w1) (h5 : w1.heap[w0.heap.size]? = some (.cells e.c 104 (0, 0))) (h10 : w1.heap[gk]? = some (.cells (tkc d e) 128 (0, 0))) : FromLoop w0 g b n key A cap ops m d e gk (ops.length - (i + 1)) (.int .i64 j) w1 :=
  ⟨i + 1, by omega, by rw [hj]; rfl, fun j' hj' => by
    by_cases h : j' = i
    · rw [h]; exact hn
    · exact hall j' (by omega), hS, hM, h5, h10⟩
set_option maxHeartbeats 32000000 in
set_option maxRecDepth 100000 in
theorem from_calls1 (g b : Nat) (key : ByteArray) (A : Option Addr) (cap : Nat) (ops : List Opn) (hl : ops.length ≤ 10) (hOk : ∀ o ∈ ops, OpOk o) (m : Nat) (IH : FromAt g b key A cap ops m)
    (d : Nat) (e : En) (w : World) (n : Nat) (hd : d < 1024) (he : EnOk e) (hm : cnt ops.length d = m + 1) (hS : Se w g b n key A cap ops) (hn : n + gain (m + 1) ≤ 4611686018427387904) (hL : leftB ops d = true) :
    Calls Tryd.prog 46 #[.pointer (some ⟨g, 0, none⟩), .int .i64 (d : Int), .agg e.c] w fun e_ w' => e_ = .returned (.bool (fromB key ops (m + 1) d e)) ∧ Se w' g b (n + gain (m + 1)) key A cap ops ∧ Mod (fun q => q = b) w w' := by
  have HE := Aside0.mk he
  have HCN := Aside0.mk hm
  have HL10 := Aside0.mk hl
  have HOk := Aside0.mk hOk
  have HNN := Aside0.mk (show n + 1 + 40 * gain m ≤ 4611686018427387904 by have : gain (m + 1) = 1 + 40 * gain m := rfl; omega)
  have IHs := Aside0.mk IH
  clear IH he hm hOk hn
  have IH := IHs
  clear IHs
  have HS := Aside0.mk hS
  have HD := Aside0.mk hd
  have HL := Aside0.mk hL
  have hd1 : (d : Int) < 1024 := by omega
  obtain ⟨N, hN⟩ : ∃ N, N = ops.length := ⟨_, rfl⟩
  have HN := Aside0.mk hN
  have hl1 : (N : Int) ≤ 10 := by omega
  have c1 : ∀ o_, (w.alloc o_).cell? ⟨g, 1, none⟩ = some (.slice A N cap) := fun o_ => by rw [hN]; exact blk_cell (blk_alloc hS.sq.blk o_) 1
  have HB0 := Aside0.mk (show ∀ o_, Below w.heap.size w (w.alloc o_) from fun o_ => below_alloc (Below.refl _ _) o_)
  clear hS hd hL hl hN
  simp only [En.c]
  go_enter Tryd.func46, Tryd.ntmps46
  go_wp2
  go_loopg [7, 19] N (fun R s7 s19 wr => LeftAt w ops d e R s7 s19 wr)
  case atStart => exact ⟨0, by rw [HN.out]; omega, rfl, rfl, blk_new w (.cells e.c 104), HB0.out _⟩
  case round =>
    obtain ⟨k, hk, rfl, rfl, h5, hB⟩ := hrel
    have HK := Aside0.mk hk
    have H5 := Aside0.mk h5
    have HB := Aside0.mk hB
    obtain ⟨P, hP0⟩ : ∃ P, P = leftK d ops k := ⟨_, rfl⟩
    have HP := Aside0.mk hP0
    rw [← hP0]
    by_cases hlt : k < N
    · obtain ⟨y, hy⟩ : ∃ y, ops[k]? = some y := ⟨_, List.getElem?_eq_getElem (by have := HN.out; omega)⟩
      obtain ⟨q, off, rfl, hr⟩ := (HS.out.sq.arg.below HB.out).at_ op_len k y hy
      have HY1 := Aside0.mk (op_one y (HS.out.sq.kvs y (List.mem_of_getElem? hy)))
      have HY := Aside0.mk hy
      have HR := Aside0.mk hr
      have r1 : decide ((k : Int) < (N : Int)) = true := decide_eq_true (by omega)
      have r2 : (k : Int) < (N : Int) := by omega
      have hk10 : (k : Int) < 10 := by omega
      have hbk := bit_at d HD.out k (by omega)
      have HQ0 : Aside0 (∀ b1 b2, d.testBit k = b2 → decide (0 ≤ y.ti) = b1 → (leftK d ops k || (decide (0 ≤ y.ti) && !d.testBit k)) = (P || (b1 && !b2))) := ⟨fun b1 b2 e1 e2 => by rw [e1, e2, HP.out]⟩
      clear hk h5 hB hP0 hy hr hlt
      cases P
      · by_cases h0 : 0 ≤ y.ti
        · have b1 : decide (0 ≤ y.ti) = true := decide_eq_true h0
          cases ht : d.testBit k
          · rw [ht, if_neg (by decide)] at hbk
            have b0 : (bits BinOp.and IntKind.i64 ((d : Int) / 2 ^ k) 1 == 0) = true := by rw [hbk]; rfl
            have HQ := Aside0.mk (HQ0.out true false ht b1).symm
            clear hbk ht h0
            go_wp2_with (first | (refine gate_ (.load 97 (.tmp 22)) rfl ?_; refine ev_load_mid (.load 97 (.tmp 22)) rfl rfl 97 (.tmp 22) rfl q (off + k * 20) ?x1 y.c _ HR.out Tryd.underlying97 rfl ?x3 ?_; (case x1 => rfl); (case x3 => kernel_rfl)) | (refine gate_ (.store 97 (.tmp 9) (.tmp 23)) rfl ?_; refine ev_store_row (.store 97 (.tmp 9) (.tmp 23)) rfl rfl rfl 97 (.tmp 9) (.tmp 23) rfl wr.heap.size y.c.toArray rfl rfl 97 Z97 (blk_new wr (.cells Z97 97)) ?y1 rfl HY1.out ?_; (case y1 => kernel_rfl); intro w_1 hw1 hm1; have HB1 := Aside0.mk (fresh_blk hm1); have k1 : w_1.cell? ⟨wr.heap.size, 1, none⟩ = some (.int .i64 y.ti) := blk_cell hw1 1; clear hw1 hm1))
            go_roundg (ops.length - (k + 1))
            case measure => have := HK.out; have := HN.out; omega
            case rel => exact LeftAt.step HK.out HY.out H5.out HB.out _ HQ.out _ rfl HB1.out
          · rw [ht, if_pos rfl] at hbk
            have b0 : (bits BinOp.and IntKind.i64 ((d : Int) / 2 ^ k) 1 == 0) = false := by rw [hbk]; rfl
            have HQ := Aside0.mk (HQ0.out true true ht b1).symm
            clear hbk ht h0
            go_wp2_with (first | (refine gate_ (.load 97 (.tmp 22)) rfl ?_; refine ev_load_mid (.load 97 (.tmp 22)) rfl rfl 97 (.tmp 22) rfl q (off + k * 20) ?x1 y.c _ HR.out Tryd.underlying97 rfl ?x3 ?_; (case x1 => rfl); (case x3 => kernel_rfl)) | (refine gate_ (.store 97 (.tmp 9) (.tmp 23)) rfl ?_; refine ev_store_row (.store 97 (.tmp 9) (.tmp 23)) rfl rfl rfl 97 (.tmp 9) (.tmp 23) rfl wr.heap.size y.c.toArray rfl rfl 97 Z97 (blk_new wr (.cells Z97 97)) ?y1 rfl HY1.out ?_; (case y1 => kernel_rfl); intro w_1 hw1 hm1; have HB1 := Aside0.mk (fresh_blk hm1); have k1 : w_1.cell? ⟨wr.heap.size, 1, none⟩ = some (.int .i64 y.ti) := blk_cell hw1 1; clear hw1 hm1))
            go_roundg (ops.length - (k + 1))
            case measure => have := HK.out; have := HN.out; omega
            case rel => exact LeftAt.step HK.out HY.out H5.out HB.out _ HQ.out _ rfl HB1.out
        · have b1 : decide (0 ≤ y.ti) = false := decide_eq_false h0
          have HQ := Aside0.mk (HQ0.out false (d.testBit k) rfl b1).symm
          clear hbk h0
          go_wp2_with (first | (refine gate_ (.load 97 (.tmp 22)) rfl ?_; refine ev_load_mid (.load 97 (.tmp 22)) rfl rfl 97 (.tmp 22) rfl q (off + k * 20) ?x1 y.c _ HR.out Tryd.underlying97 rfl ?x3 ?_; (case x1 => rfl); (case x3 => kernel_rfl)) | (refine gate_ (.store 97 (.tmp 9) (.tmp 23)) rfl ?_; refine ev_store_row (.store 97 (.tmp 9) (.tmp 23)) rfl rfl rfl 97 (.tmp 9) (.tmp 23) rfl wr.heap.size y.c.toArray rfl rfl 97 Z97 (blk_new wr (.cells Z97 97)) ?y1 rfl HY1.out ?_; (case y1 => kernel_rfl); intro w_1 hw1 hm1; have HB1 := Aside0.mk (fresh_blk hm1); have k1 : w_1.cell? ⟨wr.heap.size, 1, none⟩ = some (.int .i64 y.ti) := blk_cell hw1 1; clear hw1 hm1))
          go_roundg (ops.length - (k + 1))
          case measure => have := HK.out; have := HN.out; omega
          case rel => exact LeftAt.step HK.out HY.out H5.out HB.out _ HQ.out _ rfl HB1.out
      · have HQ : Aside0 (true = (leftK d ops k || (decide (0 ≤ y.ti) && !d.testBit k))) := ⟨((HQ0.out (decide (0 ≤ y.ti)) (d.testBit k) rfl rfl).trans (Bool.true_or _)).symm⟩
        clear hbk
        go_upto_region 5 with (first | (refine gate_ (.load 97 (.tmp 22)) rfl ?_; refine ev_load_mid (.load 97 (.tmp 22)) rfl rfl 97 (.tmp 22) rfl q (off + k * 20) ?x1 y.c _ HR.out Tryd.underlying97 rfl ?x3 ?_; (case x1 => rfl); (case x3 => kernel_rfl)) | (refine gate_ (.store 97 (.tmp 9) (.tmp 23)) rfl ?_; refine ev_store_row (.store 97 (.tmp 9) (.tmp 23)) rfl rfl rfl 97 (.tmp 9) (.tmp 23) rfl wr.heap.size y.c.toArray rfl rfl 97 Z97 (blk_new wr (.cells Z97 97)) ?y1 rfl HY1.out ?_; (case y1 => kernel_rfl); intro w_1 hw1 hm1; have HB1 := Aside0.mk (fresh_blk hm1); have k1 : w_1.cell? ⟨wr.heap.size, 1, none⟩ = some (.int .i64 y.ti) := blk_cell hw1 1; clear hw1 hm1))
        have hmU : (match (some undef : Option Value) with | some (.bool b) => some b | _ => none) = none := rfl
        go_upto_region 6 with fail
        clear hmU
        go_wp2
        go_roundg (ops.length - (k + 1))
        case measure => have := HK.out; have := HN.out; omega
        case rel => exact LeftAt.step HK.out HY.out H5.out HB.out _ HQ.out _ rfl HB1.out
    · obtain rfl : k = N := by have := HN.out; omega
      have hP : P = true := by rw [HP.out, show k = ops.length from HN.out, leftK_all]; exact HL.out
      subst hP
      have r1 : decide ((k : Int) < (k : Int)) = false := decide_eq_false (by omega)
      have k50 : wr.cell? ⟨w.heap.size, 0, none⟩ = some (.bool e.there) := blk_cell h5 0
      have k51 : wr.cell? ⟨w.heap.size, 1, none⟩ = some (.int .i64 e.fl) := blk_cell h5 1
      have k52 : wr.cell? ⟨w.heap.size, 2, none⟩ = some (.string e.val) := blk_cell h5 2
      clear hk h5 hB hlt hP0
      go_wp2
      change Code.wp _ _ _ _ (wr.alloc (.cells (tkc d e) 128))
      obtain ⟨W, hW⟩ : ∃ W, W = wr.alloc (.cells (tkc d e) 128) := ⟨_, rfl⟩
      obtain ⟨gk0, hgk0⟩ : ∃ gk0, gk0 = wr.heap.size := ⟨_, rfl⟩
      rw [← hW, ← hgk0]
      have hbW : Below wr.heap.size wr W := by rw [hW]; exact below_alloc (Below.refl _ _) _
      have HBW := Aside0.mk (below_step HB.out hbW)
      have K10 : Aside0 (W.heap[gk0]? = some (.cells (tkc d e) 128 (0, 0))) := ⟨by rw [hW, hgk0]; exact blk_new _ _⟩
      have K5 := Aside0.mk ((hbW.block _ (blk_lt H5.out)).trans H5.out)
      have HSW := Aside0.mk (HS.out.below HBW.out)
      have KG := Aside0.mk HSW.out.sq.blk
      have HBL := Aside0.mk HSW.out.ts.lt
      have HGK := Aside0.mk (show w.heap.size ≤ gk0 by rw [hgk0]; exact HB.out.size)
      obtain ⟨ok, hok, hokr⟩ := HSW.out.ts.look d e HD.out HE.out
      have HOKf := Aside0.mk hok
      have HOKr := Aside0.mk hokr
      clear hW hgk0 hbW hok hokr k50 k51 k52
      refine Ev.region_ev (Ev.One W 129 0 #[] 9 10) (by kernel_rfl) (by kernel_rfl) Ev.one_start ?_
      refine Ev.ev_step (v := .pointer (some ⟨g, 0, none⟩)) rfl rfl (Ev.one_pure (by decide) (by decide) (fun _ => by first | rfl | (go_simp; done) | (go_simp; rfl))) ?_
      simp only [Act.put, List.setIfInBounds_toArray, List.set_cons_succ, List.set_cons_zero]
      refine Ev.ev_step (v := .pointer (some ⟨g, 0, none⟩)) rfl rfl (Ev.one_pure (by decide) (by decide) (fun _ => by first | rfl | (go_simp; done) | (go_simp; rfl))) ?_
      simp only [Act.put, List.setIfInBounds_toArray, List.set_cons_succ, List.set_cons_zero]
      refine Ev.ev_step (v := .pointer (some ⟨g, 2, none⟩)) rfl rfl (Ev.one_pure (by decide) (by decide) (fun _ => by first | rfl | (go_simp; done) | (go_simp; rfl))) ?_
      simp only [Act.put, List.setIfInBounds_toArray, List.set_cons_succ, List.set_cons_zero]
      refine Ev.ev_step (v := .map (some b)) rfl rfl (one_read (by decide) (by decide) (fun w2 hm => by have c : w2.cell? ⟨g, 2, none⟩ = some (.map (some b)) := blk_cell (hm.blk KG.out (by have := blk_lt KG.out; omega)) 2; go_simp)) ?_
      simp only [Act.put, List.setIfInBounds_toArray, List.set_cons_succ, List.set_cons_zero]
      refine Ev.ev_step (v := .agg (tkc d e)) rfl rfl (one_read (by decide) (by decide) (fun w2 hm => Ev.run_load_whole 128 (.tmp 10) rfl gk0 rfl 128 _ _ (hm.blk K10.out (by have := blk_lt K10.out; omega)) Tryd.underlying128 rfl (by kernel_rfl))) ?_
      simp only [Act.put, List.setIfInBounds_toArray, List.set_cons_succ, List.set_cons_zero]
      refine Ev.ev_step (v := .tuple #[.agg #[], .bool ok]) rfl rfl (one_read (by decide) (by decide) (fun w2 hm => run_lookup_of rfl rfl rfl (HOKr.out w2 (hm.block b HBL.out (by have := HBL.out; omega))))) ?_
      simp only [Act.put, List.setIfInBounds_toArray, List.set_cons_succ, List.set_cons_zero]
      refine Ev.ev_step (v := .tuple #[.agg #[], .bool ok]) rfl rfl (Ev.one_pure (by decide) (by decide) (fun _ => by first | rfl | (go_simp; done) | (go_simp; rfl))) ?_
      simp only [Act.put, List.setIfInBounds_toArray, List.set_cons_succ, List.set_cons_zero]
      refine Ev.ev_step (v := .agg #[]) rfl rfl (Ev.one_pure (by decide) (by decide) (fun _ => by first | rfl | (go_simp; done) | (go_simp; rfl))) ?_
      simp only [Act.put, List.setIfInBounds_toArray, List.set_cons_succ, List.set_cons_zero]
      refine Ev.ev_step (v := .bool ok) rfl rfl (Ev.one_pure (by decide) (by decide) (fun _ => by first | rfl | (go_simp; done) | (go_simp; rfl))) ?_
      simp only [Act.put, List.setIfInBounds_toArray, List.set_cons_succ, List.set_cons_zero]
      refine Ev.ev_step (v := .pointer (some ⟨W.heap.size, 0, none⟩)) rfl rfl (Ev.one_alloc (z := #[]) (by decide) rfl (fun w2 => by kernel_rfl)) ?_
      simp only [Act.put, List.setIfInBounds_toArray, List.set_cons_succ, List.set_cons_zero]
      refine Ev.ev_step (v := undef) rfl rfl (Ev.one_store (by decide) 129 (.tmp 11) (.tmp 51) rfl rfl rfl rfl (by kernel_rfl) (by simp) (fun S hd => hd ⟨9, .data⟩ (by simp) rfl)) ?_
      simp only [Act.put]
      refine Ev.ev_step (v := .bool ok) rfl rfl (Ev.one_pure (by decide) (by decide) (fun _ => by first | rfl | (go_simp; done) | (go_simp; rfl))) ?_
      simp only [Act.put, List.setIfInBounds_toArray, List.set_cons_succ, List.set_cons_zero]
      refine Ev.ev_nil (fun w_e hw_e => ?_)
      obtain ⟨hB_e, _⟩ := Ev.one_end hw_e (by decide) (by decide)
      clear hw_e
      have HBe := Aside0.mk (below_step HBW.out hB_e)
      have HSe := Aside0.mk (HSW.out.below hB_e)
      have K10e := Aside0.mk ((hB_e.block _ (blk_lt K10.out)).trans K10.out)
      have K5e := Aside0.mk ((hB_e.block _ (blk_lt K5.out)).trans K5.out)
      clear hB_e
      cases ok
      · have c1e : w_e.cell? ⟨g, 1, none⟩ = some (.slice A k cap) := by rw [show k = ops.length from HN.out]; exact blk_cell HSe.out.sq.blk 1
        have HBw := Aside0.mk (show b < w.heap.size from HS.out.ts.lt)
        go_wp2
        go_loopg [59] k (fun R s wr2 => FromLoop w g b n key A cap ops m d e gk0 R s wr2)
        case atStart => exact ⟨0, by rw [show k = ops.length from HN.out]; omega, rfl, fun j hj => absurd hj (Nat.not_lt_zero _), by rw [Nat.zero_mul]; exact HSe.out, Mod.of_below HBe.out _, K5e.out, K10e.out⟩
        case round =>
          obtain ⟨i, hi, rfl, hall, hse, hmr, h5, h10⟩ := hrel
          have HK2 := Aside0.mk hi
          have HA2 := Aside0.mk hall
          have HSr := Aside0.mk hse
          have HMr := Aside0.mk hmr
          clear K5 K10 K5e K10e
          have K5 := Aside0.mk h5
          have K10 := Aside0.mk h10
          have HKB := Aside0.mk (show ¬ gk0 = b from fun e_ => by have := HGK.out; have := HBw.out; omega)
          have HGB := Aside0.mk (show ¬ g = b from fun e_ => by
            obtain ⟨es, c, hmap⟩ := hse.ts.map
            have h1 := hse.sq.blk
            rw [e_, hmap] at h1
            cases h1)
          by_cases hlt : i < k
          · obtain ⟨x, hx⟩ : ∃ x, ops[i]? = some x := ⟨_, List.getElem?_eq_getElem (by have := HN.out; omega)⟩
            have HX := Aside0.mk hx
            have r3 : decide ((i : Int) < (k : Int)) = true := decide_eq_true (by omega)
            have r4 : (i : Int) < (k : Int) := by omega
            have hi10 : (i : Int) < 10 := by omega
            have hmul : i * (4 * gain m) ≤ 9 * (4 * gain m) := Nat.mul_le_mul_right _ (by omega)
            have hsuc : (i + 1) * (4 * gain m) = i * (4 * gain m) + 4 * gain m := Nat.succ_mul _ _
            have HN0 := HNN.out
            have HN1 := Aside0.mk (show n + i * (4 * gain m) + 2 * gain m ≤ 4611686018427387904 by omega)
            have HN2 := Aside0.mk (show n + i * (4 * gain m) + 2 * gain m + 2 * gain m ≤ 4611686018427387904 by omega)
            have HNs := Aside0.mk (show n + i * (4 * gain m) ≤ n + (i + 1) * (4 * gain m) by omega)
            have HNs4 := Aside0.mk (show n + i * (4 * gain m) + 2 * gain m + 2 * gain m ≤ n + (i + 1) * (4 * gain m) by omega)
            have HT4 := Aside0.mk (show n + i * (4 * gain m) ≤ n + gain (m + 1) ∧ n + i * (4 * gain m) + 2 * gain m ≤ n + gain (m + 1) ∧ n + i * (4 * gain m) + 2 * gain m + 2 * gain m ≤ n + gain (m + 1) by have : gain (m + 1) = 1 + 40 * gain m := rfl; omega)
            obtain ⟨PM, hPM⟩ : ∃ PM, PM = mayB ops i d := ⟨_, rfl⟩
            have HPM := Aside0.mk hPM
            clear hi hall hse hmr h5 h10 hx hlt hmul hsuc HN0 hPM
            cases PM
            · have HNo := Aside0.mk (show nextB key ops m d e i = false by unfold nextB; rw [← HPM.out, Bool.false_and])
              go_upto_region 16 with fail
              have hmU : (match (some undef : Option Value) with | some (.bool b) => some b | _ => none) = none := rfl
              go_upto_region 18 with (go_at_call 64; (refine (may_calls g b key A cap ops i d x _ HSr.out.sq HX.out HL10.out HD.out).mono ?_); rintro e_1 w_2 ⟨rfl, hb⟩; rw [← HPM.out]; have HS2 := Aside0.mk (HSr.out.below hb); have K52 := Aside0.mk ((hb.block _ (blk_lt K5.out)).trans K5.out); have K102 := Aside0.mk ((hb.block _ (blk_lt K10.out)).trans K10.out); have HM2 := Aside0.mk (HMr.out.then_below hb); have k50 : w_2.cell? ⟨w.heap.size, 0, none⟩ = some (.bool e.there) := blk_cell K52.out 0; have k51 : w_2.cell? ⟨w.heap.size, 1, none⟩ = some (.int .i64 e.fl) := blk_cell K52.out 1; have k52 : w_2.cell? ⟨w.heap.size, 2, none⟩ = some (.string e.val) := blk_cell K52.out 2; clear hb)
              clear hmU k50 k51 k52
              go_wp2
              have HLi := Aside0.mk (List.getElem?_eq_some_iff.1 HX.out).1
              go_roundg (ops.length - (i + 1))
              case measure => have := HK2.out; have := HN.out; omega
              case rel => exact FromLoop.step HK2.out HA2.out HNo.out _ rfl HLi.out (HS2.out.mono HNs.out) HM2.out K52.out K102.out
            · have HBT := Aside0.mk (may_bit HPM.out.symm)
              obtain ⟨R1, hR1⟩ : ∃ R1, R1 = tryG (fromB key ops m) key ops i d e := ⟨_, rfl⟩
              obtain ⟨R2, hR2⟩ : ∃ R2, R2 = tryG (fromB key ops m) key ops i d z104 := ⟨_, rfl⟩
              have HR1 := Aside0.mk hR1
              have HR2 := Aside0.mk hR2
              clear hR1 hR2
              cases R1
              · cases R2
                · have HNo := Aside0.mk (show nextB key ops m d e i = false by unfold nextB; rw [← HPM.out, ← HR1.out, ← HR2.out]; rfl)
                  go_wp2_with (go_at_call 64; (refine (may_calls g b key A cap ops i d x _ HSr.out.sq HX.out HL10.out HD.out).mono ?_); rintro e_1 w_2 ⟨rfl, hb⟩; rw [← HPM.out]; have HS2 := Aside0.mk (HSr.out.below hb); have K52 := Aside0.mk ((hb.block _ (blk_lt K5.out)).trans K5.out); have K102 := Aside0.mk ((hb.block _ (blk_lt K10.out)).trans K10.out); have HM2 := Aside0.mk (HMr.out.then_below hb); have k50 : w_2.cell? ⟨w.heap.size, 0, none⟩ = some (.bool e.there) := blk_cell K52.out 0; have k51 : w_2.cell? ⟨w.heap.size, 1, none⟩ = some (.int .i64 e.fl) := blk_cell K52.out 1; have k52 : w_2.cell? ⟨w.heap.size, 2, none⟩ = some (.string e.val) := blk_cell K52.out 2; clear hb)
                  go_at_call 65
                  refine (try_calls g b key A cap ops m IH.out HOk.out HL10.out i d e x _ (n + i * (4 * gain m)) HX.out HBT.out HCN.out HD.out HE.out HS2.out HN1.out).mono ?_
                  rintro e_1 w_3 ⟨rfl, hs3, hm3⟩
                  rw [← HR1.out]
                  have HS3 := Aside0.mk hs3
                  have HM3 := Aside0.mk (HM2.out.trans hm3 (fun q_ hq => .inl hq))
                  have K53 := Aside0.mk (hm3.blk K52.out (ne_of_lt2 HBw.out))
                  have K103 := Aside0.mk (hm3.blk K102.out HKB.out)
                  clear hs3 hm3
                  go_wp2_with (go_at_call 65; (refine (try_calls g b key A cap ops m IH.out HOk.out HL10.out i d z104 x _ (n + i * (4 * gain m) + 2 * gain m) HX.out HBT.out HCN.out HD.out z_ok HS3.out HN2.out).mono ?_); rintro e_1 w_4 ⟨rfl, hs4, hm4⟩; rw [← HR2.out]; have HS4 := Aside0.mk hs4; have HM4 := Aside0.mk (HM3.out.trans hm4 (fun q_ hq => .inl hq)); have K54 := Aside0.mk (hm4.blk K53.out (ne_of_lt2 HBw.out)); have K104 := Aside0.mk (hm4.blk K103.out HKB.out); clear hs4 hm4)
                  have HLi := Aside0.mk (List.getElem?_eq_some_iff.1 HX.out).1
                  go_roundg (ops.length - (i + 1))
                  case measure => have := HK2.out; have := HN.out; omega
                  case rel => exact FromLoop.step HK2.out HA2.out HNo.out _ rfl HLi.out (HS4.out.mono HNs4.out) HM4.out K54.out K104.out
                · have HYes := Aside0.mk (show fromB key ops (m + 1) d e = true from from_yes HL.out e m i (List.getElem?_eq_some_iff.1 HX.out).1 (by unfold nextB; rw [← HPM.out, ← HR1.out, ← HR2.out]; rfl))
                  go_wp2_with (go_at_call 64; (refine (may_calls g b key A cap ops i d x _ HSr.out.sq HX.out HL10.out HD.out).mono ?_); rintro e_1 w_2 ⟨rfl, hb⟩; rw [← HPM.out]; have HS2 := Aside0.mk (HSr.out.below hb); have K52 := Aside0.mk ((hb.block _ (blk_lt K5.out)).trans K5.out); have K102 := Aside0.mk ((hb.block _ (blk_lt K10.out)).trans K10.out); have HM2 := Aside0.mk (HMr.out.then_below hb); have k50 : w_2.cell? ⟨w.heap.size, 0, none⟩ = some (.bool e.there) := blk_cell K52.out 0; have k51 : w_2.cell? ⟨w.heap.size, 1, none⟩ = some (.int .i64 e.fl) := blk_cell K52.out 1; have k52 : w_2.cell? ⟨w.heap.size, 2, none⟩ = some (.string e.val) := blk_cell K52.out 2; clear hb)
                  go_at_call 65
                  refine (try_calls g b key A cap ops m IH.out HOk.out HL10.out i d e x _ (n + i * (4 * gain m)) HX.out HBT.out HCN.out HD.out HE.out HS2.out HN1.out).mono ?_
                  rintro e_1 w_3 ⟨rfl, hs3, hm3⟩
                  rw [← HR1.out]
                  have HS3 := Aside0.mk hs3
                  have HM3 := Aside0.mk (HM2.out.trans hm3 (fun q_ hq => .inl hq))
                  have K53 := Aside0.mk (hm3.blk K52.out (ne_of_lt2 HBw.out))
                  have K103 := Aside0.mk (hm3.blk K102.out HKB.out)
                  clear hs3 hm3
                  go_wp2_with (go_at_call 65; (refine (try_calls g b key A cap ops m IH.out HOk.out HL10.out i d z104 x _ (n + i * (4 * gain m) + 2 * gain m) HX.out HBT.out HCN.out HD.out z_ok HS3.out HN2.out).mono ?_); rintro e_1 w_4 ⟨rfl, hs4, hm4⟩; rw [← HR2.out]; have HS4 := Aside0.mk hs4; have HM4 := Aside0.mk (HM3.out.trans hm4 (fun q_ hq => .inl hq)); have K54 := Aside0.mk (hm4.blk K53.out (ne_of_lt2 HBw.out)); have K104 := Aside0.mk (hm4.blk K103.out HKB.out); clear hs4 hm4)
                  go_ret
                  exact ⟨by rw [HYes.out]; rfl, HS4.out.mono HT4.out.2.2, HM4.out⟩
              · have HYes := Aside0.mk (show fromB key ops (m + 1) d e = true from from_yes HL.out e m i (List.getElem?_eq_some_iff.1 HX.out).1 (by unfold nextB; rw [← HPM.out, ← HR1.out]; rfl))
                go_wp2_with (go_at_call 64; (refine (may_calls g b key A cap ops i d x _ HSr.out.sq HX.out HL10.out HD.out).mono ?_); rintro e_1 w_2 ⟨rfl, hb⟩; rw [← HPM.out]; have HS2 := Aside0.mk (HSr.out.below hb); have K52 := Aside0.mk ((hb.block _ (blk_lt K5.out)).trans K5.out); have K102 := Aside0.mk ((hb.block _ (blk_lt K10.out)).trans K10.out); have HM2 := Aside0.mk (HMr.out.then_below hb); have k50 : w_2.cell? ⟨w.heap.size, 0, none⟩ = some (.bool e.there) := blk_cell K52.out 0; have k51 : w_2.cell? ⟨w.heap.size, 1, none⟩ = some (.int .i64 e.fl) := blk_cell K52.out 1; have k52 : w_2.cell? ⟨w.heap.size, 2, none⟩ = some (.string e.val) := blk_cell K52.out 2; clear hb)
                go_at_call 65
                refine (try_calls g b key A cap ops m IH.out HOk.out HL10.out i d e x _ (n + i * (4 * gain m)) HX.out HBT.out HCN.out HD.out HE.out HS2.out HN1.out).mono ?_
                rintro e_1 w_3 ⟨rfl, hs3, hm3⟩
                rw [← HR1.out]
                have HS3 := Aside0.mk hs3
                have HM3 := Aside0.mk (HM2.out.trans hm3 (fun q_ hq => .inl hq))
                have K53 := Aside0.mk (hm3.blk K52.out (ne_of_lt2 HBw.out))
                have K103 := Aside0.mk (hm3.blk K102.out HKB.out)
                clear hs3 hm3
                go_wp2
                go_ret
                exact ⟨by rw [HYes.out]; rfl, HS3.out.mono HT4.out.2.1, HM3.out⟩
          · obtain rfl : i = k := by have := HN.out; omega
            have r3 : decide ((i : Int) < (i : Int)) = false := decide_eq_false (by omega)
            have HNf := Aside0.mk (show fromB key ops (m + 1) d e = false from from_no HL.out e m (fun j hj => HA2.out j (by have := HN.out; omega)))
            have HFF := Aside0.mk (show (fun d e => fromB key ops (cnt ops.length d) d e = false) d e by show fromB key ops (cnt ops.length d) d e = false; rw [HCN.out]; exact HNf.out)
            have hmul : i * (4 * gain m) ≤ 10 * (4 * gain m) := Nat.mul_le_mul_right _ (by have := HL10.out; have := HN.out; omega)
            have HN0 := HNN.out
            have HNm := Aside0.mk (show n + i * (4 * gain m) < maxLen by unfold maxLen; omega)
            have HNl := Aside0.mk (show n + i * (4 * gain m) + 1 ≤ n + gain (m + 1) by have : gain (m + 1) = 1 + 40 * gain m := rfl; omega)
            clear hi hall hse hmr h5 h10 hlt hmul HN0
            go_wp2
            refine Ev.region_ev (Tst wr b (n + i * (4 * gain m) + 1) (fun d e => fromB key ops (cnt ops.length d) d e = false) 6) (by kernel_rfl) (by kernel_rfl) tst_start ?_
            refine Ev.ev_step (v := .pointer (some ⟨g, 0, none⟩)) rfl rfl (tst_pure (by decide) (fun _ => by first | rfl | (go_simp; done) | (go_simp; rfl))) ?_
            simp only [Act.put, List.setIfInBounds_toArray, List.set_cons_succ, List.set_cons_zero]
            refine Ev.ev_step (v := .pointer (some ⟨g, 0, none⟩)) rfl rfl (tst_pure (by decide) (fun _ => by first | rfl | (go_simp; done) | (go_simp; rfl))) ?_
            simp only [Act.put, List.setIfInBounds_toArray, List.set_cons_succ, List.set_cons_zero]
            refine Ev.ev_step (v := .pointer (some ⟨g, 2, none⟩)) rfl rfl (tst_pure (by decide) (fun _ => by first | rfl | (go_simp; done) | (go_simp; rfl))) ?_
            simp only [Act.put, List.setIfInBounds_toArray, List.set_cons_succ, List.set_cons_zero]
            refine Ev.ev_step (v := .map (some b)) rfl rfl (tst_read (by decide) (fun w2 hm => by have c : w2.cell? ⟨g, 2, none⟩ = some (.map (some b)) := blk_cell (hm.blk HSr.out.sq.blk HGB.out) 2; go_simp)) ?_
            simp only [Act.put, List.setIfInBounds_toArray, List.set_cons_succ, List.set_cons_zero]
            refine Ev.ev_step (v := .agg (tkc d e)) rfl rfl (tst_read (by decide) (fun w2 hm => Ev.run_load_whole 128 (.tmp 10) rfl gk0 rfl 128 _ _ (hm.blk K10.out HKB.out) Tryd.underlying128 rfl (by kernel_rfl))) ?_
            simp only [Act.put, List.setIfInBounds_toArray, List.set_cons_succ, List.set_cons_zero]
            refine Ev.ev_step (v := .agg #[]) rfl rfl (tst_pure (by decide) (fun _ => by first | rfl | (go_simp; done) | (go_simp; rfl))) ?_
            simp only [Act.put, List.setIfInBounds_toArray, List.set_cons_succ, List.set_cons_zero]
            refine Ev.ev_step (v := undef) rfl rfl (tst_store (.tmp 84) (.tmp 85) (.tmp 86) rfl rfl d e rfl rfl HSr.out.ts HNm.out HD.out HE.out HFF.out) ?_
            simp only [Act.put]
            refine Ev.ev_nil (fun w_f hw_f => ?_)
            obtain ⟨hM_f, hT_f⟩ := tst_end hw_f (by decide)
            clear hw_f
            go_wp2
            go_ret
            refine ⟨by rw [HNf.out]; rfl, ⟨?_, hT_f.mono HNl.out, pow_mod HSr.out.pow hM_f (fun e_ => by have := HSr.out.b0; omega), HSr.out.b0⟩, HMr.out.trans hM_f (fun q_ hq => .inl hq)⟩
            obtain ⟨es, c, hmap⟩ := HSr.out.ts.map
            exact HSr.out.sq.mod hmap hM_f
      · have HNf := Aside0.mk (show fromB key ops (m + 1) d e = false by have h := HOKf.out rfl; rw [HCN.out] at h; exact h)
        have HSfin := Aside0.mk (HSe.out.mono (show n ≤ n + gain (m + 1) by omega))
        go_wp2
        go_ret
        exact ⟨by rw [HNf.out]; rfl, HSfin.out, Mod.of_below HBe.out _⟩

theorem from_calls (g b : Nat) (key : ByteArray) (A : Option Addr) (cap : Nat) (ops : List Opn) (hl : ops.length ≤ 10) (hOk : ∀ o ∈ ops, OpOk o) : ∀ m, FromAt g b key A cap ops m
  | 0 => fun d e w n hm hd he hS hn => by
    have hL := left_of_cnt hm
    refine (from_calls0 g b key A cap ops hl d e w n hd hS hL).mono fun e_ w' ⟨h1, h2⟩ => ⟨h1, (hS.below h2).mono (Nat.le_add_right _ _), Mod.of_below h2 _⟩
  | m + 1 => fun d e w n hm hd he hS hn => by
    cases hL : leftB ops d
    · refine (from_calls0 g b key A cap ops hl d e w n hd hS hL).mono fun e_ w' ⟨h1, h2⟩ => ⟨?_, (hS.below h2).mono (Nat.le_add_right _ _), Mod.of_below h2 _⟩
      rw [h1, from_done hL]
    · exact from_calls1 g b key A cap ops hl hOk m (from_calls g b key A cap ops hl hOk m) d e w n hd he hm hS hn hL
end Go.Proofs.YtepklobkppdliaaDoor.Hs
namespace Go.Proofs.YtepklobkppdliaaDoor.Hs
open Go.RowKit Go.Proofs.YtepklobkppdliaaDoorW.PrintWords Go.Proofs.YtepklobkppdliaaDoorW.PrintLast Go.Proofs.YtepklobkppdliaaDoorW.PrintMore Go.Proofs.YtepklobkppdliaaDoor.Lib Go.Proofs.YtepklobkppdliaaDoor.Open Go.Proofs.YtepklobkppdliaaDoor.Md
def kcl (k : ByteArray) : List Value := [.string k]
theorem kcl_len (k : ByteArray) : (kcl k).length = 1 := rfl
theorem kcl_one (k : ByteArray) : ∀ u ∈ kcl k, u.oneCell' = true := by simp [kcl, Value.oneCell']
theorem flat_one {α : Type} {cl : α → List Value} (h : ∀ x, ∀ u ∈ cl x, u.oneCell' = true) (xs : List α) : ∀ u ∈ xs.flatMap cl, u.oneCell' = true := by
  intro u hu
  obtain ⟨x, _, hx⟩ := List.mem_flatMap.1 hu
  exact h x u hx
theorem arg_of_own {α : Type} {cl : α → List Value} {s : Nat} (hs : ∀ x, (cl x).length = s) {w : World} {B n : Nat} {e : TypeId} {v : Value} {xs : List α} (h : w.ownsRow B e s v n (xs.flatMap cl)) (hn : xs.length = n) (hb : n ≤ 9223372036854775807) : ∃ A c, v = .slice A n c ∧ Arg cl w A n xs := by
  rcases h.2 with ⟨e1, hz⟩ | ⟨g, cap, cur, e1, _⟩
  · refine ⟨none, 0, ?_, hn, hb, fun hp => by omega⟩
    rw [e1, hz]
  · subst e1
    exact ⟨some ⟨g, 0, none⟩, cap, rfl, hn, hb, fun _ => ⟨g, 0, rfl, range_of_own h 0 _ (fun j u hu => by rw [Nat.zero_add]; exact hu) (by rw [Nat.zero_add, flat_length cl s hs, hn]; exact Nat.le_refl _)⟩⟩
theorem nil24 (a : Option Addr) (n c : Nat) (w : World) : (binOp .eql 24 (.slice a n c) (.slice none 0 0)).run Tryd.prog w = .ok (.bool a.isNone) w := by
  have h := run_equal_slice_nil (P := Tryd.prog) (w := w) 24 9 a n c Tryd.underlying24
  simp only [binOp]
  simp [h]
theorem nil29 (a : Option Addr) (n c : Nat) (w : World) : (binOp .eql 29 (.slice a n c) (.slice none 0 0)).run Tryd.prog w = .ok (.bool a.isNone) w := by
  have h := run_equal_slice_nil (P := Tryd.prog) (w := w) 29 35 a n c Tryd.underlying29
  simp only [binOp]
  simp [h]
theorem info9 : (Tryd.prog.info? 9).map (fun i => (i.zero, i.size, i.bytes)) = some (some (.string ⟨#[]⟩), 1, 16) := by kernel_rfl
theorem info35 : (Tryd.prog.info? 35).map (fun i => (i.zero, i.size, i.bytes)) = some (some (.agg #[.string ⟨#[]⟩, .int .i64 0, .string ⟨#[]⟩, .int .i64 0]), 4, 48) := by kernel_rfl

set_option maxHeartbeats 4000000 in
set_option maxRecDepth 100000 in
theorem clone62 (A : Option Addr) (c : Nat) (xs : List ByteArray) (w : World) (h : Arg kcl w A xs.length xs) (hl : xs.length ≤ 1000000) :
    Calls Tryd.prog 62 #[.slice A xs.length c] w fun e w' => ∃ A' c', e = .returned (.slice A' xs.length c') ∧ w'.ownsRow w.heap.size 9 1 (.slice A' xs.length c') xs.length (xs.flatMap kcl) ∧ Below w.heap.size w w' := by
  obtain ⟨n, hn⟩ : ∃ n, n = xs.length := ⟨_, rfl⟩
  have HN := Aside0.mk hn
  rw [← hn] at hl ⊢
  rw [← hn] at h
  cases A with
  | none =>
    have hn0 : n = 0 := by
      rcases Nat.eq_zero_or_pos n with h0 | h0
      · exact h0
      · obtain ⟨a, o, e, _⟩ := h.2.2 h0
        cases e
    subst hn0
    have hnil := nil24 none 0 c
    simp only [Option.isNone_none] at hnil
    have HX := Aside0.mk (show xs = [] from List.length_eq_zero_iff.1 hn.symm)
    clear h hl hn
    go_enter Tryd.func62, Tryd.ntmps62
    go_wp2
    go_ret
    refine ⟨none, 0, rfl, ?_, Below.refl _ _⟩
    rw [HX.out]
    exact own_nil _ _ _ _
  | some a =>
    have hnil := nil24 (some a) n c
    simp only [Option.isNone_some] at hnil
    have HR := Aside0.mk (show ∀ W, Below w.heap.size w W → ∀ j u, (xs.flatMap kcl)[j]? = some u → W.cell? (a.add j) = some u from fun W hb j u hu => by
      have hp : 0 < n := by
        rcases Nat.eq_zero_or_pos n with h0 | h0
        · rw [List.length_eq_zero_iff.1 (hn.symm.trans h0)] at hu
          simp at hu
        · exact h0
      obtain ⟨b, o, e, hr⟩ := h.2.2 hp
      cases e
      rw [Addr.add_mid]
      exact pw_cell_below hb (hr j u hu))
    have HL := Aside0.mk (show (xs.flatMap kcl).length = n * 1 ∧ 0 + n ≤ maxLen ∧ (0 + n) * 16 ≤ 140737488355328 by rw [flat_length kcl 1 kcl_len, hn]; unfold maxLen; omega)
    have HB := Aside0.mk (below_alloc (Below.refl w.heap.size w) (.cells #[] 9 (0, 0)))
    clear h hl hn
    go_enter Tryd.func62, Tryd.ntmps62
    go_wp2_with (refine ev_append (W := w.alloc (.cells #[] 9 (0, 0))) (.tmp 5) (.tmp 6) 24 9 rfl rfl w.heap.size _ 1 16 Tryd.underlying24 info9 rfl (by decide) _ 0 [] rfl (own_empty (Nat.le_refl _) (blk_new w _)) a n c (xs.flatMap kcl) rfl HL.out.1 (HR.out _ HB.out) (flat_one kcl_one xs) HL.out.2.1 HL.out.2.2 HB.out.size ?_; intro v2 w_2 ho2 hm2 _ hat2; rw [Nat.zero_add, List.nil_append] at ho2; have HO := Aside0.mk ho2; have HB_n := Aside0.mk (hm2.after HB.out HB.out.size (fun k hk => Nat.le_of_eq (Option.some.inj (show some w.heap.size = some k from hk.symm)))); clear HB; have HB := HB_n; clear HB_n ho2 hm2 hat2)
    go_ret
    obtain ⟨A', c', rfl⟩ := own_slice HO.out
    exact ⟨A', c', rfl, HO.out, HB.out⟩

set_option maxHeartbeats 4000000 in
set_option maxRecDepth 100000 in
theorem clone63 (A : Option Addr) (c : Nat) (xs : List Fd) (w : World) (h : Arg Fd.c w A xs.length xs) (hl : xs.length ≤ 1000000) :
    Calls Tryd.prog 63 #[.slice A xs.length c] w fun e w' => ∃ A' c', e = .returned (.slice A' xs.length c') ∧ w'.ownsRow w.heap.size 35 4 (.slice A' xs.length c') xs.length (xs.flatMap Fd.c) ∧ Below w.heap.size w w' := by
  obtain ⟨n, hn⟩ : ∃ n, n = xs.length := ⟨_, rfl⟩
  have HN := Aside0.mk hn
  rw [← hn] at hl ⊢
  rw [← hn] at h
  cases A with
  | none =>
    have hn0 : n = 0 := by
      rcases Nat.eq_zero_or_pos n with h0 | h0
      · exact h0
      · obtain ⟨a, o, e, _⟩ := h.2.2 h0
        cases e
    subst hn0
    have hnil := nil29 none 0 c
    simp only [Option.isNone_none] at hnil
    have HX := Aside0.mk (show xs = [] from List.length_eq_zero_iff.1 hn.symm)
    clear h hl hn
    go_enter Tryd.func63, Tryd.ntmps63
    go_wp2
    go_ret
    refine ⟨none, 0, rfl, ?_, Below.refl _ _⟩
    rw [HX.out]
    exact own_nil _ _ _ _
  | some a =>
    have hnil := nil29 (some a) n c
    simp only [Option.isNone_some] at hnil
    have HR := Aside0.mk (show ∀ W, Below w.heap.size w W → ∀ j u, (xs.flatMap Fd.c)[j]? = some u → W.cell? (a.add j) = some u from fun W hb j u hu => by
      have hp : 0 < n := by
        rcases Nat.eq_zero_or_pos n with h0 | h0
        · rw [List.length_eq_zero_iff.1 (hn.symm.trans h0)] at hu
          simp at hu
        · exact h0
      obtain ⟨b, o, e, hr⟩ := h.2.2 hp
      cases e
      rw [Addr.add_mid]
      exact pw_cell_below hb (hr j u hu))
    have HL := Aside0.mk (show (xs.flatMap Fd.c).length = n * 4 ∧ 0 + n ≤ maxLen ∧ (0 + n) * 48 ≤ 140737488355328 by rw [flat_length Fd.c 4 fd_len, hn]; unfold maxLen; omega)
    have HB := Aside0.mk (below_alloc (Below.refl w.heap.size w) (.cells #[] 35 (0, 0)))
    clear h hl hn
    go_enter Tryd.func63, Tryd.ntmps63
    go_wp2_with (refine ev_append (W := w.alloc (.cells #[] 35 (0, 0))) (.tmp 5) (.tmp 6) 29 35 rfl rfl w.heap.size _ 4 48 Tryd.underlying29 info35 rfl (by decide) _ 0 [] rfl (own_empty (Nat.le_refl _) (blk_new w _)) a n c (xs.flatMap Fd.c) rfl HL.out.1 (HR.out _ HB.out) (flat_one fd_one xs) HL.out.2.1 HL.out.2.2 HB.out.size ?_; intro v2 w_2 ho2 hm2 _ hat2; rw [Nat.zero_add, List.nil_append] at ho2; have HO := Aside0.mk ho2; have HB_n := Aside0.mk (hm2.after HB.out HB.out.size (fun k hk => Nat.le_of_eq (Option.some.inj (show some w.heap.size = some k from hk.symm)))); clear HB; have HB := HB_n; clear HB_n ho2 hm2 hat2)
    go_ret
    obtain ⟨A', c', rfl⟩ := own_slice HO.out
    exact ⟨A', c', rfl, HO.out, HB.out⟩

def hasK (key : ByteArray) (ks : List ByteArray) : Bool := ks.any (fun x => key.toList == x.toList)
set_option maxHeartbeats 4000000 in
set_option maxRecDepth 100000 in
theorem index75 (A : Option Addr) (c : Nat) (ks : List ByteArray) (key : ByteArray) (w : World) (h : Arg kcl w A ks.length ks) :
    Calls Tryd.prog 75 #[.slice A ks.length c, .string key] w fun e w' => ∃ r : Int, e = .returned (.int .i64 r) ∧ decide (0 ≤ r) = hasK key ks ∧ w = w' := by
  have HA := Aside0.mk h
  obtain ⟨N, hN⟩ : ∃ N, N = ks.length := ⟨_, rfl⟩
  have HN := Aside0.mk hN
  have hl' : (N : Int) ≤ 9223372036854775807 := by have := h.2.1; omega
  rw [← hN]
  clear h hN
  go_enter Tryd.func75, Tryd.ntmps75
  go_wp2
  go_loopg [8] N (fun R s wr => ∃ i : Nat, i + R = ks.length ∧ s = .int .i64 (i : Int) ∧ hasK key (ks.take i) = false ∧ wr = w)
  case atStart => exact ⟨0, by rw [HN.out]; omega, rfl, rfl, rfl⟩
  case round =>
    obtain ⟨i, hi, rfl, hno, rfl⟩ := hrel
    have HI := Aside0.mk hi
    have HO := Aside0.mk hno
    by_cases hlt : i < N
    · obtain ⟨x, hx⟩ : ∃ x, ks[i]? = some x := ⟨_, List.getElem?_eq_getElem (by have := HN.out; omega)⟩
      obtain ⟨b, o, rfl, hr⟩ := HA.out.at_ kcl_len i x hx
      have ck : wr.cell? ⟨b, o + i, none⟩ = some (.string x) := by have := hr 0 _ rfl; rwa [Nat.add_zero, Nat.mul_one] at this
      have HX := Aside0.mk hx
      have r1 : decide ((i : Int) < (N : Int)) = true := decide_eq_true (by omega)
      have r2 : (i : Int) < (N : Int) := by omega
      have HS := Aside0.mk (show hasK key (ks.take (i + 1)) = (hasK key (ks.take i) || (key.toList == x.toList)) by
        unfold hasK
        rw [List.take_add_one, hx, Option.toList_some, List.any_append, List.any_cons, List.any_nil, Bool.or_false])
      clear hi hno hx hr hlt
      cases hk : (key.toList == x.toList)
      · have HS2 := Aside0.mk (show hasK key (ks.take (i + 1)) = false by rw [HS.out, HO.out, hk]; rfl)
        go_wp2
        go_roundg (ks.length - (i + 1))
        case measure => have := HI.out; have := HN.out; omega
        case rel => exact ⟨i + 1, by have := HI.out; have := HN.out; omega, by go_num, HS2.out, rfl⟩
      · have HY := Aside0.mk (show hasK key ks = true from List.any_eq_true.2 ⟨x, List.mem_of_getElem? HX.out, hk⟩)
        have HZ := Aside0.mk (show decide (0 ≤ (i : Int)) = true from decide_eq_true (by omega))
        go_wp2
        go_ret
        exact ⟨(i : Int), rfl, by rw [HZ.out, HY.out], rfl⟩
    · obtain rfl : i = N := by have := HN.out; omega
      have r1 : decide ((i : Int) < (i : Int)) = false := decide_eq_false (by omega)
      have HF := Aside0.mk (show hasK key ks = false by rw [List.take_of_length_le (by have := HN.out; omega)] at hno; exact hno)
      clear hi hno hlt
      go_wp2
      go_ret
      exact ⟨-1, rfl, by rw [HF.out]; rfl, rfl⟩
set_option maxHeartbeats 4000000 in
set_option maxRecDepth 100000 in
theorem has61 (A : Option Addr) (c : Nat) (ks : List ByteArray) (key : ByteArray) (w : World) (h : Arg kcl w A ks.length ks) :
    Calls Tryd.prog 61 #[.slice A ks.length c, .string key] w fun e w' => e = .returned (.bool (hasK key ks)) ∧ w = w' := by
  have HA := Aside0.mk h
  clear h
  go_enter Tryd.func61, Tryd.ntmps61
  go_wp2_with (go_at_call 75; (refine (index75 A c ks key _ HA.out).mono ?_); rintro e_1 w_1 ⟨r, rfl, hr, rfl⟩)
  go_ret
  exact ⟨rfl, rfl⟩
end Go.Proofs.YtepklobkppdliaaDoor.Hs
namespace Go.Proofs.YtepklobkppdliaaDoor.Hs
open Go.RowKit Go.Proofs.YtepklobkppdliaaDoorW.PrintWords Go.Proofs.YtepklobkppdliaaDoorW.PrintLast Go.Proofs.YtepklobkppdliaaDoorW.PrintMore Go.Proofs.YtepklobkppdliaaDoor.Lib Go.Proofs.YtepklobkppdliaaDoor.Open Go.Proofs.YtepklobkppdliaaDoor.Md
open Go.Maps (Keyed IsMap)
/-- An event of a history. -/
structure Evt where
  kind : Int
  tk : Int
  r : Rq
  kA : Option Addr
  kc : Nat
  ks : List ByteArray
  a : Aw
  vA : Option Addr
  vc : Nat
  vs : List Fd
def Evt.c (e : Evt) : List Value := [.int .i64 e.kind, .int .i64 e.tk, .int .i64 e.r.verb, .slice e.kA e.ks.length e.kc, .int .i64 e.r.fl, .int .i64 e.r.exp, .int .i64 e.r.bytes, .int .i64 e.r.cas, .int .u64 e.r.delta, .bool e.r.quiet, .string e.r.data,
  .int .i64 e.a.kind, .slice e.vA e.vs.length e.vc, .bool e.a.gets, .int .u64 e.a.num, .string e.a.text, .int .i64 e.a.s0, .int .i64 e.a.s1, .int .i64 e.a.s2, .int .i64 e.a.s3]
theorem evt_len (e : Evt) : e.c.length = 20 := rfl
theorem evt_one (e : Evt) : ∀ u ∈ e.c, u.oneCell' = true := by simp [Evt.c, Value.oneCell']
/-- What an event tells, wherever it lies. -/
structure Esp where
  kind : Int
  tk : Int
  r : Rq
  ks : List ByteArray
  a : Aw
  vs : List Fd
def Evt.sp (e : Evt) : Esp := ⟨e.kind, e.tk, e.r, e.ks, e.a, e.vs⟩
structure Osp where
  fr : Int
  ti : Int
  r : Rq
  a : Aw
  vs : List Fd
def Opn.sp (o : Opn) : Osp := ⟨o.fr, o.ti, o.r, o.a, o.vs⟩
def zAw : Aw := ⟨0, false, 0, ⟨#[]⟩, 0, 0, 0, 0⟩
/-- Events that can be read. -/
structure Evs (w : World) (A : Option Addr) (evs : List Evt) : Prop where
  arg : Arg Evt.c w A evs.length evs
  keys : ∀ e ∈ evs, Arg kcl w e.kA e.ks.length e.ks ∧ e.ks.length ≤ 1000000
  vals : ∀ e ∈ evs, Arg Fd.c w e.vA e.vs.length e.vs ∧ e.vs.length ≤ 1000000
  few : evs.length ≤ 1000000
  plain : ∀ e ∈ evs, e.kind = 1 → e.r.verb ≠ 13
theorem Evs.below {w W : World} {A : Option Addr} {evs : List Evt} (h : Evs w A evs) (hb : Below w.heap.size w W) : Evs W A evs :=
  ⟨h.arg.below hb, fun e he => ⟨(h.keys e he).1.below hb, (h.keys e he).2⟩, fun e he => ⟨(h.vals e he).1.below hb, (h.vals e he).2⟩, h.few, h.plain⟩
def isC (key : ByteArray) (e : Esp) : Bool := e.kind == 1 && hasK key e.ks
def isR (tk : Int) (e : Esp) : Bool := e.kind == 2 && e.tk == tk
/-- The return of a call: at place k or behind it. -/
def retFrom (tk : Int) : List Esp → Nat → Option (Nat × Esp)
  | [], _ => none
  | e :: l, k => if isR tk e then some (k, e) else retFrom tk l (k + 1)
def retAt (tk : Int) (evs : List Esp) (k : Nat) : Option (Nat × Esp) := retFrom tk (evs.drop k) k
def opOf (evs : List Esp) (i : Nat) (e : Esp) : Osp := match retAt e.tk evs (i + 1) with
  | none => ⟨i, -1, e.r, zAw, []⟩
  | some (j, e') => ⟨i, j, e.r, e'.a, e'.vs⟩
/-- The calls among the first k events. -/
def opsK (key : ByteArray) (evs : List Esp) : Nat → List Osp
  | 0 => []
  | k + 1 => opsK key evs k ++ (match evs[k]? with | some e => if isC key e then [opOf evs k e] else [] | none => [])
theorem opsK_le (key : ByteArray) (evs : List Esp) : ∀ k, (opsK key evs k).length ≤ k
  | 0 => Nat.le_refl _
  | k + 1 => by
    have := opsK_le key evs k
    unfold opsK
    rw [List.length_append]
    split
    · split
      · simp; omega
      · simp; omega
    · simp; omega
theorem opsK_no {key : ByteArray} {evs : List Esp} {k : Nat} {e : Esp} (h : evs[k]? = some e) (hc : isC key e = false) : opsK key evs (k + 1) = opsK key evs k := by
  show opsK key evs k ++ _ = _
  rw [h]
  simp [hc]
theorem opsK_yes {key : ByteArray} {evs : List Esp} {k : Nat} {e : Esp} (h : evs[k]? = some e) (hc : isC key e = true) : opsK key evs (k + 1) = opsK key evs k ++ [opOf evs k e] := by
  show opsK key evs k ++ _ = _
  rw [h]
  simp [hc]
theorem ret_skip {tk : Int} {evs : List Esp} {k : Nat} {e : Esp} (h : evs[k]? = some e) (hr : isR tk e = false) : retAt tk evs k = retAt tk evs (k + 1) := by
  unfold retAt
  obtain ⟨hk, e2⟩ := List.getElem?_eq_some_iff.1 h
  rw [List.drop_eq_getElem_cons hk, e2]
  show (if isR tk e then some (k, e) else retFrom tk (evs.drop (k + 1)) (k + 1)) = _
  rw [if_neg (by rw [hr]; decide)]
theorem ret_here {tk : Int} {evs : List Esp} {k : Nat} {e : Esp} (h : evs[k]? = some e) (hr : isR tk e = true) : retAt tk evs k = some (k, e) := by
  unfold retAt
  obtain ⟨hk, e2⟩ := List.getElem?_eq_some_iff.1 h
  rw [List.drop_eq_getElem_cons hk, e2]
  unfold retFrom
  rw [if_pos hr]
theorem ret_end {tk : Int} {evs : List Esp} {k : Nat} (h : evs.length ≤ k) : retAt tk evs k = none := by
  unfold retAt
  rw [List.drop_eq_nil_of_le h]
  rfl
/-- The loop of Ops: i events were looked at. -/
def OpsAt (w0 : World) (key : ByteArray) (evs : List Evt) (R : Nat) (s5 s12 : Value) (wr : World) : Prop :=
  ∃ (i : Nat) (ops : List Opn) (A' : Option Addr) (c' : Nat), i + R = evs.length ∧ s12 = .int .i64 (i : Int) ∧ s5 = .slice A' ops.length c' ∧ ops.map Opn.sp = opsK key (evs.map Evt.sp) i ∧
    wr.ownsRow w0.heap.size 97 20 (.slice A' ops.length c') ops.length (ops.flatMap Opn.c) ∧ (∀ o ∈ ops, wr.ownsRow w0.heap.size 35 4 (.slice o.vA o.vs.length o.vc) o.vs.length (o.vs.flatMap Fd.c)) ∧ (∀ o ∈ ops, o.kv.oneCell' = true) ∧ Below w0.heap.size w0 wr
theorem OpsAt.pass {w0 wr w1 : World} {key : ByteArray} {evs : List Evt} {i gk M : Nat} {ops : List Opn} {A' : Option Addr} {c' : Nat} {x : Evt} (hi : i + gk = evs.length) (hx : evs[i]? = some x) (hn : isC key x.sp = false) (ho : ops.map Opn.sp = opsK key (evs.map Evt.sp) i) (hM : M = ops.length)
    (hR : wr.ownsRow w0.heap.size 97 20 (.slice A' ops.length c') ops.length (ops.flatMap Opn.c)) (hV : ∀ o ∈ ops, wr.ownsRow w0.heap.size 35 4 (.slice o.vA o.vs.length o.vc) o.vs.length (o.vs.flatMap Fd.c)) (hK : ∀ o ∈ ops, o.kv.oneCell' = true) (hB : Below w0.heap.size w0 wr) (j : Int) (hj : j = (i : Int) + 1) (hb : Below wr.heap.size wr w1) :
    OpsAt w0 key evs (evs.length - (i + 1)) (.slice A' M c') (.int .i64 j) w1 := by
  have hl := (List.getElem?_eq_some_iff.1 hx).1
  exact ⟨i + 1, ops, A', c', by omega, by rw [hj]; rfl, by rw [hM], by rw [opsK_no (by rw [List.getElem?_map, hx]; rfl) hn]; exact ho, pw_own_below hR hb, fun o h => pw_own_below (hV o h) hb, hK, below_step hB hb⟩
theorem evt_rq (x : Evt) : ∀ j u, (x.r.c (.slice x.kA x.ks.length x.kc)).toList[j]? = some u → x.c.toArray[2 + j]? = some u := by
  intro j u h
  match j with
  | 0 | 1 | 2 | 3 | 4 | 5 | 6 | 7 | 8 => exact h
  | j + 9 => simp [Rq.c] at h
/-- The inner loop: the return is looked for from place k on. -/
def RetFor (W3 : World) (es : List Esp) (tk : Int) (i1 : Nat) (R : Nat) (s9 : Value) (wr : World) : Prop :=
  ∃ k : Nat, k + R = es.length ∧ i1 ≤ k ∧ s9 = .int .i64 (k : Int) ∧ retAt tk es i1 = retAt tk es k ∧ Below W3.heap.size W3 wr
theorem evt_ans (x : Evt) : ∀ j u, (x.a.c (.slice x.vA x.vs.length x.vc)).toList[j]? = some u → x.c[11 + j]? = some u := by
  intro j u h
  match j with
  | 0 | 1 | 2 | 3 | 4 | 5 | 6 | 7 | 8 => exact h
  | j + 9 => simp [Aw.c] at h
theorem op_ones (o : Opn) (h : o.kv.oneCell' = true) : ∀ u ∈ o.c, u.oneCell' = true := by
  unfold Value.oneCell' at h
  simp [Opn.c, Value.oneCell', h]
theorem own_mono {W : World} {B B' n s : Nat} {e : TypeId} {v : Value} {xs : List Value} (h : W.ownsRow B e s v n xs) (hB : B' ≤ B) : W.ownsRow B' e s v n xs :=
  ⟨h.1, h.2.imp id (fun ⟨g, cap, cur, e1, hg, r⟩ => ⟨g, cap, cur, e1, Nat.le_trans hB hg, r⟩)⟩
theorem own_len {w : World} {B n s c : Nat} {e : TypeId} {A : Option Addr} {xs : List Value} (h : w.ownsRow B e s (.slice A n c) n xs) : n ≤ 9223372036854775807 := by
  rcases h.2 with ⟨_, h2⟩ | ⟨g, cap, cur, _, _, _, h2, h3, _⟩
  · omega
  · unfold maxLen at h3
    omega
theorem OpsAt.push {w0 wo w1 w2 : World} {key : ByteArray} {evs : List Evt} {i gk : Nat} {ops : List Opn} {A' : Option Addr} {c' : Nat} {x : Evt} {v' : Value} (hi : i + gk = evs.length) (hx : evs[i]? = some x) (hn : isC key x.sp = true) (ho : ops.map Opn.sp = opsK key (evs.map Evt.sp) i)
    (hR : wo.ownsRow w0.heap.size 97 20 (.slice A' ops.length c') ops.length (ops.flatMap Opn.c)) (hV : ∀ o ∈ ops, wo.ownsRow w0.heap.size 35 4 (.slice o.vA o.vs.length o.vc) o.vs.length (o.vs.flatMap Fd.c)) (hK : ∀ o ∈ ops, o.kv.oneCell' = true) (hB : Below w0.heap.size w0 wo) (hb : Below wo.heap.size wo w1)
    (y : Opn) (hy : y.sp = opOf (evs.map Evt.sp) i x.sp) (hyv : w1.ownsRow w0.heap.size 35 4 (.slice y.vA y.vs.length y.vc) y.vs.length (y.vs.flatMap Fd.c)) (hyk : y.kv.oneCell' = true) (hv : w2.ownsRow w0.heap.size 97 20 v' (ops.length + 1) (ops.flatMap Opn.c ++ y.c)) (hm : Mod (fun k => some k = (Value.slice A' ops.length c').ownBlock) w1 w2) (j : Int) (hj : j = (i : Int) + 1) :
    OpsAt w0 key evs (evs.length - (i + 1)) v' (.int .i64 j) w2 := by
  have hl := (List.getElem?_eq_some_iff.1 hx).1
  obtain ⟨A1, c1, rfl⟩ := own_slice hv
  have hR1 := pw_own_below hR hb
  have hfar : ∀ {v : Value} {n : Nat} {xs : List Value}, w1.ownsRow w0.heap.size 35 4 v n xs → w2.ownsRow w0.heap.size 35 4 v n xs := fun {v n xs} h => hm.own h (fun q hq e => by
    obtain ⟨cc, hcc⟩ := own_typed h q hq
    obtain ⟨dd, hdd⟩ := own_typed hR1 q e.symm
    rw [hcc] at hdd
    injection hdd with hdd
    injection hdd with _ hdd
    exact absurd hdd (by decide))
  refine ⟨i + 1, ops ++ [y], A1, c1, by omega, by rw [hj]; rfl, by rw [List.length_append]; rfl, ?_, ?_, ?_, ?_, ?_⟩
  · rw [opsK_yes (by rw [List.getElem?_map, hx]; rfl) hn, List.map_append, ho, List.map_singleton, hy]
  · rw [List.length_append, List.flatMap_append, List.flatMap_singleton]
    exact hv
  · intro o h
    rcases List.mem_append.1 h with h | h
    · exact hfar (pw_own_below (hV o h) hb)
    · rw [List.mem_singleton.1 h]
      exact hfar hyv
  · intro o h
    rcases List.mem_append.1 h with h | h
    · exact hK o h
    · rw [List.mem_singleton.1 h]
      exact hyk
  · refine (below_step hB hb).trans (hm.below (fun q hq => own_base hR1 q hq.symm) ?_)
    exact Nat.le_trans hB.size hb.size
theorem info97 : (Tryd.prog.info? 97).map (fun i => (i.zero, i.size, i.bytes)) = some (some (.agg Z97), 20, 208) := by kernel_rfl

set_option maxHeartbeats 32000000 in
set_option maxRecDepth 100000 in
theorem ops_calls (A : Option Addr) (cap : Nat) (evs : List Evt) (key : ByteArray) (w : World) (hE : Evs w A evs) :
    Calls Tryd.prog 45 #[.slice A evs.length cap, .string key] w fun e_ w' => ∃ (ops : List Opn) (A' : Option Addr) (c' : Nat), e_ = .returned (.slice A' ops.length c') ∧ ops.map Opn.sp = opsK key (evs.map Evt.sp) evs.length ∧
      Arg Opn.c w' A' ops.length ops ∧ (∀ o ∈ ops, Arg Fd.c w' o.vA o.vs.length o.vs) ∧ (∀ o ∈ ops, o.kv.oneCell' = true) ∧ Below w.heap.size w w' := by
  have HE := Aside0.mk hE
  obtain ⟨N, hN⟩ : ∃ N, N = evs.length := ⟨_, rfl⟩
  have HN := Aside0.mk hN
  have hl' : (N : Int) ≤ 1000000 := by have := hE.few; omega
  rw [← hN]
  clear hE hN
  go_enter Tryd.func45, Tryd.ntmps45
  go_wp2
  go_loopg [5, 12] N (fun R s5 s12 wr => OpsAt w key evs R s5 s12 wr)
  case atStart => exact ⟨0, [], none, 0, by rw [HN.out]; omega, rfl, rfl, rfl, own_nil _ _ _ _, (fun o ho => by cases ho), (fun o ho => by cases ho), Below.refl _ _⟩
  case round =>
    obtain ⟨i, ops, A', c', hi, rfl, rfl, hops, hrow, hvals, hkvs, hB⟩ := hrel
    obtain ⟨wo, rfl⟩ : ∃ wo : World, wo = wr := ⟨_, rfl⟩
    have HI := Aside0.mk hi
    have HO := Aside0.mk hops
    have HR := Aside0.mk hrow
    have HV := Aside0.mk hvals
    have HKV := Aside0.mk hkvs
    have HB := Aside0.mk hB
    by_cases hlt : i < N
    · obtain ⟨x, hx⟩ : ∃ x, evs[i]? = some x := ⟨_, List.getElem?_eq_getElem (by have := HN.out; omega)⟩
      obtain ⟨q, off, rfl, hr⟩ := (HE.out.below HB.out).arg.at_ evt_len i x hx
      have HX := Aside0.mk hx
      have HRx := Aside0.mk hr
      have hxm := List.mem_of_getElem? hx
      have HKx2 := Aside0.mk (show ∀ W, Below wo.heap.size wo W → Arg kcl W x.kA x.ks.length x.ks from fun W hb => ((HE.out.keys x hxm).1.below HB.out).below hb)
      have HEO := Aside0.mk (all_oneCell_toArray (evt_one x))
      have HNV0 := Aside0.mk (show x.kind = 1 → (x.r.verb != 13) = true from fun h => bne_iff_ne.2 (HE.out.plain x hxm h))
      clear hxm
      have r1 : decide ((i : Int) < (N : Int)) = true := decide_eq_true (by omega)
      have r2 : (i : Int) < (N : Int) := by omega
      clear hi hops hrow hvals hkvs hB hlt hr hx
      cases hk : (x.kind == 1)
      · have e1 : (x.kind != 1) = true := by rw [bne, hk]; rfl
        have HPASS := Aside0.mk (show isC key x.sp = false by unfold isC; rw [show x.sp.kind = x.kind from rfl, hk, Bool.false_and])
        clear hk
        go_wp2_with (first | (refine gate_ (.load 59 (.tmp 15)) rfl ?_; refine ev_load_mid (.load 59 (.tmp 15)) rfl rfl 59 (.tmp 15) rfl q (off + i * 20) ?x1 x.c _ HRx.out Tryd.underlying59 rfl ?x3 ?_; (case x1 => rfl); (case x3 => kernel_rfl)) | (refine gate_ (.store 59 (.tmp 7) (.tmp 16)) rfl ?_; refine ev_store_row (.store 59 (.tmp 7) (.tmp 16)) rfl rfl rfl 59 (.tmp 7) (.tmp 16) rfl wo.heap.size x.c.toArray rfl rfl 59 Z97 (blk_new wo (.cells Z97 59)) ?y1 rfl HEO.out ?_; (case y1 => kernel_rfl); intro w_1 hw1 hm1; have HB1 := Aside0.mk (fresh_blk hm1); have K7 := Aside0.mk hw1; have k70 : w_1.cell? ⟨wo.heap.size, 0, none⟩ = some (.int .i64 x.kind) := blk_cell hw1 0; have k72 : w_1.cell? ⟨wo.heap.size, 2, none⟩ = some (.int .i64 x.r.verb) := blk_cell hw1 2; have k73 : w_1.cell? ⟨wo.heap.size, 3, none⟩ = some (.slice x.kA x.ks.length x.kc) := blk_cell hw1 3; clear hw1 hm1))
        go_step3
        have hmU : (match (some undef : Option Value) with | some (.bool b) => some b | _ => none) = none := rfl
        go_wp2
        clear hmU
        rw [Exit.noGoto_exit]
        go_wp2
        go_roundg (evs.length - (i + 1))
        case measure => have := HI.out; have := HN.out; omega
        case rel => exact OpsAt.pass HI.out HX.out HPASS.out HO.out rfl HR.out HV.out HKV.out HB.out _ rfl HB1.out
      · have e1 : (x.kind != 1) = false := by rw [bne, hk]; rfl
        have v13 : (x.r.verb != 13) = true := HNV0.out (by simpa using hk)
        cases hh : hasK key x.ks
        · have HPASS := Aside0.mk (show isC key x.sp = false by unfold isC; rw [show x.sp.ks = x.ks from rfl, hh, Bool.and_false])
          have HC1 := Aside0.mk hh
          clear hk hh
          go_wp2_with (first | (refine gate_ (.load 59 (.tmp 15)) rfl ?_; refine ev_load_mid (.load 59 (.tmp 15)) rfl rfl 59 (.tmp 15) rfl q (off + i * 20) ?x1 x.c _ HRx.out Tryd.underlying59 rfl ?x3 ?_; (case x1 => rfl); (case x3 => kernel_rfl)) | (refine gate_ (.store 59 (.tmp 7) (.tmp 16)) rfl ?_; refine ev_store_row (.store 59 (.tmp 7) (.tmp 16)) rfl rfl rfl 59 (.tmp 7) (.tmp 16) rfl wo.heap.size x.c.toArray rfl rfl 59 Z97 (blk_new wo (.cells Z97 59)) ?y1 rfl HEO.out ?_; (case y1 => kernel_rfl); intro w_1 hw1 hm1; have HB1 := Aside0.mk (fresh_blk hm1); have K7 := Aside0.mk hw1; have k70 : w_1.cell? ⟨wo.heap.size, 0, none⟩ = some (.int .i64 x.kind) := blk_cell hw1 0; have k72 : w_1.cell? ⟨wo.heap.size, 2, none⟩ = some (.int .i64 x.r.verb) := blk_cell hw1 2; have k73 : w_1.cell? ⟨wo.heap.size, 3, none⟩ = some (.slice x.kA x.ks.length x.kc) := blk_cell hw1 3; clear hw1 hm1))
          go_step3
          go_wp2_with (go_at_call 61; (refine (has61 x.kA x.kc x.ks key _ (HKx2.out _ HB1.out)).mono ?_); rintro e_1 w_9 ⟨rfl, rfl⟩; rw [HC1.out])
          rw [Exit.noGoto_exit]
          go_wp2
          go_roundg (evs.length - (i + 1))
          case measure => have := HI.out; have := HN.out; omega
          case rel => exact OpsAt.pass HI.out HX.out HPASS.out HO.out rfl HR.out HV.out HKV.out HB.out _ rfl HB1.out
        · have HCALL := Aside0.mk (show isC key x.sp = true by unfold isC; rw [show x.sp.kind = x.kind from rfl, show x.sp.ks = x.ks from rfl, hk, hh]; rfl)
          have HC1 := Aside0.mk hh
          clear hk hh
          go_wp2_with (first | (refine gate_ (.load 59 (.tmp 15)) rfl ?_; refine ev_load_mid (.load 59 (.tmp 15)) rfl rfl 59 (.tmp 15) rfl q (off + i * 20) ?x1 x.c _ HRx.out Tryd.underlying59 rfl ?x3 ?_; (case x1 => rfl); (case x3 => kernel_rfl)) | (refine gate_ (.store 59 (.tmp 7) (.tmp 16)) rfl ?_; refine ev_store_row (.store 59 (.tmp 7) (.tmp 16)) rfl rfl rfl 59 (.tmp 7) (.tmp 16) rfl wo.heap.size x.c.toArray rfl rfl 59 Z97 (blk_new wo (.cells Z97 59)) ?y1 rfl HEO.out ?_; (case y1 => kernel_rfl); intro w_1 hw1 hm1; have HB1 := Aside0.mk (fresh_blk hm1); have K7 := Aside0.mk hw1; have k70 : w_1.cell? ⟨wo.heap.size, 0, none⟩ = some (.int .i64 x.kind) := blk_cell hw1 0; have k72 : w_1.cell? ⟨wo.heap.size, 2, none⟩ = some (.int .i64 x.r.verb) := blk_cell hw1 2; have k73 : w_1.cell? ⟨wo.heap.size, 3, none⟩ = some (.slice x.kA x.ks.length x.kc) := blk_cell hw1 3; clear hw1 hm1))
          go_step3
          go_upto_region 6 with (go_at_call 61; (refine (has61 x.kA x.kc x.ks key _ (HKx2.out _ HB1.out)).mono ?_); rintro e_1 w_9 ⟨rfl, rfl⟩; rw [HC1.out])
          clear k70 k72 k73
          obtain ⟨y0, hy0⟩ : ∃ y0 : Opn, y0 = ⟨(i : Int), -1, x.r, .slice x.kA x.ks.length x.kc, zAw, none, 0, []⟩ := ⟨_, rfl⟩
          have HY0 := Aside0.mk hy0
          have HYO := Aside0.mk (op_one y0 (by rw [hy0]; rfl))
          have HKL := Aside0.mk (HE.out.keys x (List.mem_of_getElem? HX.out)).2
          obtain ⟨g8, hg8⟩ : ∃ g8, g8 = w_1.heap.size := ⟨_, rfl⟩
          have HG8 := Aside0.mk hg8
          have HL7 := Aside0.mk (blk_lt K7.out)
          have HN78 := Aside0.mk (show ¬ wo.heap.size = g8 by have := blk_lt K7.out; omega)
          clear hy0 hg8
          go_upto_region 8 with (first | (refine gate_ (.load 27 (.tmp 35)) rfl ?_; refine ev_load_mid (.load 27 (.tmp 35)) rfl rfl 27 (.tmp 35) rfl wo.heap.size 2 ?x1 (x.r.c (.slice x.kA x.ks.length x.kc)).toList _ (range_part K7.out (evt_rq x)) Tryd.underlying27 rfl ?x3 ?_; (case x1 => rfl); (case x3 => kernel_rfl); simp only [Rq.c]) | (refine gate_ (.store 97 (.tmp 8) (.tmp 37)) rfl ?_; rw [← HG8.out]; refine ev_store_row (.store 97 (.tmp 8) (.tmp 37)) rfl rfl rfl 97 (.tmp 8) (.tmp 37) rfl g8 y0.c.toArray rfl ?y2 97 Z97 ?y3 ?y1 rfl HYO.out ?_; (case y1 => kernel_rfl); (case y2 => rw [HY0.out]; rfl); (case y3 => rw [HG8.out]; exact blk_new w_1 (.cells Z97 97)); intro w_2 hw2 hm2; have hb2 : Below w_1.heap.size w_1 w_2 := fresh_blk (by rw [← HG8.out]; exact hm2); have HB2 := Aside0.mk (below_step HB1.out hb2); have K8 := Aside0.mk hw2; have K72 := Aside0.mk ((hb2.block _ (blk_lt K7.out)).trans K7.out); have k73 : w_2.cell? ⟨wo.heap.size, 3, none⟩ = some (.slice x.kA x.ks.length x.kc) := blk_cell K72.out 3; clear hw2 hm2 hb2) | (go_at_call 62; (refine (clone62 x.kA x.kc x.ks _ (HKx2.out _ HB2.out) HKL.out).mono ?_); rintro e_1 w_3 ⟨A2, c2, rfl, hown2, hb3⟩; have HB3 := Aside0.mk (below_step HB2.out hb3); have K83 := Aside0.mk ((hb3.block _ (blk_lt K8.out)).trans K8.out); have K73 := Aside0.mk ((hb3.block _ (blk_lt K72.out)).trans K72.out); have k83 : w_3.cell? ⟨g8, 3, none⟩ = some (.slice x.kA x.ks.length x.kc) := (by have h := blk_cell K83.out 3; rw [HY0.out] at h; exact h); have f83 : w_3.frozen? ⟨g8, 3, none⟩ = false := blk_frozen K83.out 3; clear hown2 hb3))
          have hM := Mod.setCell (p := ⟨g8, 3, none⟩) (Mod.refl (fun q_ => q_ = g8) w_3) (.inl rfl) (.slice A2 x.ks.length c2)
          obtain ⟨y1, hy1⟩ : ∃ y1 : Opn, y1 = { y0 with kv := .slice A2 x.ks.length c2 } := ⟨_, rfl⟩
          have k8w : (w_3.setCell ⟨g8, 3, none⟩ (.slice A2 x.ks.length c2)).heap[g8]? = some (.cells y1.c.toArray 97 (0, 0)) := by rw [hy1]; exact blk_put K83.out 3 _ rfl
          have k7w := hM.blk K73.out HN78.out
          have hB3w := hM.after HB3.out HB3.out.size (fun q_ hq => by rw [hq, HG8.out]; exact HB1.out.size)
          obtain ⟨W3, hW3⟩ : ∃ W3, W3 = w_3.setCell ⟨g8, 3, none⟩ (.slice A2 x.ks.length c2) := ⟨_, rfl⟩
          rw [← hW3] at k8w k7w hB3w ⊢
          have HY1 := Aside0.mk (show y1 = ⟨(i : Int), -1, x.r, .slice A2 x.ks.length c2, zAw, none, 0, []⟩ by rw [hy1, HY0.out])
          have K8w := Aside0.mk k8w
          have K7w := Aside0.mk k7w
          have HB3w := Aside0.mk hB3w
          have hi10 : (i : Int) ≤ 1000000 := by omega
          clear hM hy1 k8w k7w hB3w hW3 k73 k83 f83 HYO
          go_step3
          go_wp2
          go_loopg [9] (evs.length - (i + 1)) (fun R s9 wr2 => RetFor W3 (evs.map Evt.sp) x.tk (i + 1) R s9 wr2)
          case atStart => exact ⟨i + 1, by rw [List.length_map]; have := HI.out; have := HN.out; omega, Nat.le_refl _, rfl, rfl, Below.refl _ _⟩
          case round =>
            obtain ⟨k, hk, hik, rfl, hret, hb⟩ := hrel
            rw [List.length_map] at hk
            have HK := Aside0.mk hk
            have HIK := Aside0.mk hik
            have HRT := Aside0.mk hret
            have HBI := Aside0.mk hb
            have HBW := Aside0.mk (below_step HB.out (below_step HB3w.out hb))
            have K7i := Aside0.mk ((hb.block _ (blk_lt K7w.out)).trans K7w.out)
            have K8i := Aside0.mk ((hb.block _ (blk_lt K8w.out)).trans K8w.out)
            by_cases hkn : k < N
            · obtain ⟨z, hz⟩ : ∃ z, evs[k]? = some z := ⟨_, List.getElem?_eq_getElem (by have := HN.out; omega)⟩
              have hzr : wr.rangeAt q (off + k * 20) z.c := by
                obtain ⟨q2, o2, e2, h2⟩ := (HE.out.below HBW.out).arg.at_ evt_len k z hz
                simp only [Option.some.injEq, Addr.mk.injEq, and_true] at e2
                obtain ⟨rfl, rfl⟩ := e2
                exact h2
              have HZ := Aside0.mk hz
              have HZR := Aside0.mk hzr
              have HZm := Aside0.mk (show (evs.map Evt.sp)[k]? = some z.sp by rw [List.getElem?_map, hz]; rfl)
              have cz0 : wr.cell? ⟨q, off + k * 20, none⟩ = some (.int .i64 z.kind) := hzr 0 _ rfl
              have cz1 : wr.cell? ⟨q, off + k * 20 + 1, none⟩ = some (.int .i64 z.tk) := hzr 1 _ rfl
              have c71 : wr.cell? ⟨wo.heap.size, 1, none⟩ = some (.int .i64 x.tk) := blk_cell K7i.out 1
              have r5 : decide ((k : Int) < (N : Int)) = true := decide_eq_true (by omega)
              have r6 : (k : Int) < (N : Int) := by omega
              clear hk hik hret hb hz hzr hkn
              cases hz2 : (z.kind == 2)
              · have n1 : (z.kind != 2) = true := by rw [bne, hz2]; rfl
                have HNR := Aside0.mk (show isR x.tk z.sp = false by unfold isR; rw [show z.sp.kind = z.kind from rfl, hz2, Bool.false_and])
                clear hz2
                go_wp2
                go_quiet (fail)
                go_wp2
                go_roundg (evs.length - (k + 1))
                case measure => have := HK.out; have := HN.out; omega
                case rel => exact ⟨k + 1, by rw [List.length_map]; have := HK.out; have := HN.out; omega, by have := HIK.out; omega, by go_num, by rw [HRT.out]; exact ret_skip HZm.out HNR.out, pw_below_drewN HBI.out _⟩
              · have n1 : (z.kind != 2) = false := by rw [bne, hz2]; rfl
                cases hzt : (z.tk == x.tk)
                · have n2 : (z.tk != x.tk) = true := by rw [bne, hzt]; rfl
                  have HNR := Aside0.mk (show isR x.tk z.sp = false by unfold isR; rw [show z.sp.tk = z.tk from rfl, hzt, Bool.and_false])
                  clear hz2 hzt
                  go_wp2
                  go_quiet (fail)
                  go_wp2
                  go_roundg (evs.length - (k + 1))
                  case measure => have := HK.out; have := HN.out; omega
                  case rel => exact ⟨k + 1, by rw [List.length_map]; have := HK.out; have := HN.out; omega, by have := HIK.out; omega, by go_num, by rw [HRT.out]; exact ret_skip HZm.out HNR.out, pw_below_drewN HBI.out _⟩
                · have n2 : (z.tk != x.tk) = false := by rw [bne, hzt]; rfl
                  have HYR := Aside0.mk (show isR x.tk z.sp = true by unfold isR; rw [show z.sp.kind = z.kind from rfl, show z.sp.tk = z.tk from rfl, hz2, hzt]; rfl)
                  clear hz2 hzt
                  go_wp2
                  go_quiet (fail)
                  go_upto_region 12 with fail
                  obtain ⟨W5, hW5⟩ : ∃ W5, W5 = wr.drewN nq := ⟨_, rfl⟩
                  rw [← hW5]
                  have hb5 : Below wr.heap.size wr W5 := by rw [hW5]; exact pw_below_drewN (Below.refl _ _) _
                  have K85 := Aside0.mk ((hb5.block _ (blk_lt K8i.out)).trans K8i.out)
                  rw [HY1.out] at K85
                  have HB5 := Aside0.mk (below_step HBW.out hb5)
                  have HBo5 := Aside0.mk (below_step (below_step HB3w.out HBI.out) hb5)
                  have HZA := Aside0.mk (show ∀ w2, Mod (fun q_ => q_ = g8) W5 w2 → w2.rangeAt q (off + k * 20 + 11) (z.a.c (.slice z.vA z.vs.length z.vc)).toList from fun w2 hm j u hu => by
                    have h1 := HZR.out (11 + j) u (evt_ans z j u hu)
                    have h2 : w2.cell? ⟨q, off + k * 20 + (11 + j), none⟩ = some u := by
                      have hfar : Below w.heap.size w w2 := hm.after HB5.out HB5.out.size (fun q_ hq => by rw [hq, HG8.out]; exact Nat.le_trans HB.out.size HB1.out.size)
                      obtain ⟨q2, o2, e2, h3⟩ := (HE.out.below hfar).arg.at_ evt_len k z HZ.out
                      simp only [Option.some.injEq, Addr.mk.injEq, and_true] at e2
                      obtain ⟨rfl, rfl⟩ := e2
                      exact h3 (11 + j) u (evt_ans z j u hu)
                    rwa [← Nat.add_assoc] at h2)
                  clear hW5 hb5 cz0 cz1 c71
                  refine Ev.region_ev (Ev.Prt W5 g8 97 (fun b1 b2 => (Opn.c ⟨(i : Int), if b1 then (k : Int) else -1, x.r, .slice A2 x.ks.length c2, if b2 then z.a else zAw, if b2 then z.vA else none, if b2 then z.vc else 0, if b2 then z.vs else []⟩).toArray) 7 9) (by kernel_rfl) (by kernel_rfl) (Ev.prt_start K85.out) ?_
                  refine Ev.ev_step (v := .int .i64 (k : Int)) rfl rfl (Ev.prt_pure (by decide) (by decide) (fun _ => by first | rfl | (go_simp; done) | (go_simp; rfl))) ?_
                  simp only [Act.put, List.setIfInBounds_toArray, List.set_cons_succ, List.set_cons_zero]
                  refine Ev.ev_step (v := .slice (some ⟨q, off, none⟩) N cap) rfl rfl (Ev.prt_pure (by decide) (by decide) (fun _ => by first | rfl | (go_simp; done) | (go_simp; rfl))) ?_
                  simp only [Act.put, List.setIfInBounds_toArray, List.set_cons_succ, List.set_cons_zero]
                  refine Ev.ev_step (v := .int .i64 (k : Int)) rfl rfl (Ev.prt_pure (by decide) (by decide) (fun _ => by first | rfl | (go_simp; done) | (go_simp; rfl))) ?_
                  simp only [Act.put, List.setIfInBounds_toArray, List.set_cons_succ, List.set_cons_zero]
                  refine Ev.ev_step (v := .pointer (some ⟨q, off + k * 20, none⟩)) rfl rfl (Ev.prt_pure (by decide) (by decide) (fun _ => by first | rfl | (go_simp; done) | (go_simp; rfl))) ?_
                  simp only [Act.put, List.setIfInBounds_toArray, List.set_cons_succ, List.set_cons_zero]
                  refine Ev.ev_step (v := .pointer (some ⟨q, off + k * 20 + 11, none⟩)) rfl rfl (Ev.prt_pure (by decide) (by decide) (fun _ => by first | rfl | (go_simp; done) | (go_simp; rfl))) ?_
                  simp only [Act.put, List.setIfInBounds_toArray, List.set_cons_succ, List.set_cons_zero]
                  refine Ev.ev_step (v := .agg (z.a.c (.slice z.vA z.vs.length z.vc))) rfl rfl (Ev.prt_read (by decide) (by decide) (fun w2 hm => Ev.run_load_part 32 (.tmp 72) rfl q (off + k * 20 + 11) rfl (z.a.c (.slice z.vA z.vs.length z.vc)).toList _ (HZA.out w2 hm) Tryd.underlying32 rfl (by kernel_rfl))) ?_
                  simp only [Act.put, List.setIfInBounds_toArray, List.set_cons_succ, List.set_cons_zero]
                  refine Ev.ev_step (v := .pointer (some ⟨g8, 1, none⟩)) rfl rfl (Ev.prt_pure (by decide) (by decide) (fun _ => by first | rfl | (go_simp; done) | (go_simp; rfl))) ?_
                  simp only [Act.put, List.setIfInBounds_toArray, List.set_cons_succ, List.set_cons_zero]
                  refine Ev.ev_step (v := undef) rfl rfl (Ev.prt_store1 (by decide) 1 (.int .i64 (k : Int)) (.int .i64 (-1)) (fun b => rfl) (fun b => rfl) (fun w2 hc hf => by go_simp)) ?_
                  simp only [Act.put]
                  refine Ev.ev_step (v := .pointer (some ⟨g8, 11, none⟩)) rfl rfl (Ev.prt_pure (by decide) (by decide) (fun _ => by first | rfl | (go_simp; done) | (go_simp; rfl))) ?_
                  simp only [Act.put, List.setIfInBounds_toArray, List.set_cons_succ, List.set_cons_zero]
                  refine Ev.ev_step (v := undef) rfl rfl (Ev.prt_store2 (by decide) 32 (.tmp 75) (.tmp 73) rfl 11 (z.a.c (.slice z.vA z.vs.length z.vc)) rfl rfl (by kernel_rfl) (aw_one _ _ rfl) (fun b => Nat.le_refl 20) (fun b cur h => Array.toList_inj.1 (h.trans rfl))) ?_
                  simp only [Act.put]
                  refine Ev.ev_nil (fun w_e hw_e => ?_)
                  obtain ⟨hM_e, hK_e⟩ := Ev.prt_end hw_e (by decide) (by decide)
                  clear hw_e
                  have HBe := Aside0.mk (hM_e.after HB5.out HB5.out.size (fun q_ hq => by rw [hq, HG8.out]; exact Nat.le_trans HB.out.size HB1.out.size))
                  have HBoe := Aside0.mk (hM_e.after HBo5.out HBo5.out.size (fun q_ hq => by rw [hq, HG8.out]; exact HB1.out.size))
                  have cvs : w_e.cell? ⟨q, off + k * 20 + 12, none⟩ = some (.slice z.vA z.vs.length z.vc) := by
                    obtain ⟨q2, o2, e2, h3⟩ := (HE.out.below HBe.out).arg.at_ evt_len k z HZ.out
                    simp only [Option.some.injEq, Addr.mk.injEq, and_true] at e2
                    obtain ⟨rfl, rfl⟩ := e2
                    exact h3 12 _ rfl
                  have HVZ := Aside0.mk (HE.out.vals z (List.mem_of_getElem? HZ.out))
                  have HKe := Aside0.mk hK_e
                  clear hM_e hK_e
                  go_upto_region 14 with (go_at_call 63; (refine (clone63 z.vA z.vc z.vs _ (HVZ.out.1.below HBe.out) HVZ.out.2).mono ?_); rintro e_1 w_f ⟨A3, c3, rfl, hown3, hbf⟩; have HOWN := Aside0.mk hown3; have HBf := Aside0.mk hbf; have HKf := Aside0.mk ((hbf.block _ (blk_lt HKe.out)).trans HKe.out); have k812 : w_f.cell? ⟨g8, 12, none⟩ = some (.slice z.vA z.vs.length z.vc) := (blk_cell HKf.out 12); have f812 : w_f.frozen? ⟨g8, 12, none⟩ = false := blk_frozen HKf.out 12; clear hown3 hbf)
                  have hMf := Mod.setCell (p := ⟨g8, 12, none⟩) (Mod.refl (fun q_ => q_ = g8) w_f) (.inl rfl) (.slice A3 z.vs.length c3)
                  obtain ⟨y2, hy2⟩ : ∃ y2 : Opn, y2 = ⟨(i : Int), (k : Int), x.r, .slice A2 x.ks.length c2, z.a, A3, c3, z.vs⟩ := ⟨_, rfl⟩
                  have k8x : (w_f.setCell ⟨g8, 12, none⟩ (.slice A3 z.vs.length c3)).heap[g8]? = some (.cells y2.c.toArray 97 (0, 0)) := by rw [hy2]; exact blk_put HKf.out 12 _ rfl
                  have hbox := hMf.after (below_step HBoe.out HBf.out) (below_step HBoe.out HBf.out).size (fun q_ hq => by rw [hq, HG8.out]; exact HB1.out.size)
                  have hvx : (w_f.setCell ⟨g8, 12, none⟩ (.slice A3 z.vs.length c3)).ownsRow w.heap.size 35 4 (.slice y2.vA y2.vs.length y2.vc) y2.vs.length (y2.vs.flatMap Fd.c) := by
                    rw [hy2]
                    exact hMf.own (own_mono HOWN.out HBe.out.size) (fun q_ hq e_ => by
                      obtain ⟨cc, hcc⟩ := own_typed HOWN.out q_ hq
                      rw [e_, HKf.out] at hcc
                      injection hcc with hcc
                      injection hcc with _ hcc
                      exact absurd hcc (by decide))
                  obtain ⟨Wx, hWx⟩ : ∃ Wx, Wx = w_f.setCell ⟨g8, 12, none⟩ (.slice A3 z.vs.length c3) := ⟨_, rfl⟩
                  rw [← hWx] at k8x hbox hvx ⊢
                  have K8x := Aside0.mk k8x
                  have HBox := Aside0.mk hbox
                  have HVx := Aside0.mk hvx
                  have HY2K := Aside0.mk (show y2.kv.oneCell' = true by rw [hy2]; rfl)
                  have HY2S := Aside0.mk (show y2.sp = opOf (evs.map Evt.sp) i x.sp by
                    unfold opOf
                    rw [show x.sp.tk = x.tk from rfl, HRT.out, ret_here HZm.out HYR.out, hy2]
                    rfl)
                  clear hMf hy2 k8x hbox hvx hWx k812 f812 cvs
                  have HY2O := Aside0.mk (op_ones y2 HY2K.out)
                  have HSZ := Aside0.mk (show ops.length + 1 ≤ maxLen ∧ (ops.length + 1) * 208 ≤ 140737488355328 by have h1 := opsK_le key (evs.map Evt.sp) i; rw [← HO.out, List.length_map] at h1; unfold maxLen; omega)
                  go_wp2_with (first | (refine gate_ (.load 97 (.tmp 8)) rfl ?_; refine ev_load_row (.load 97 (.tmp 8)) rfl rfl 97 (.tmp 8) rfl g8 rfl 97 y2.c.toArray _ K8x.out Tryd.underlying97 rfl (by kernel_rfl) ?_) | (refine gate_ (.buildSlice 94 1 #[(0, .tmp 86)]) rfl ?_; refine ev_lit (.buildSlice 94 1 #[(0, .tmp 86)]) rfl rfl 1 y2.c.toArray 97 ?hr ?_; (case hr => (simp only [Opn.c]; first | (go_simp; done) | (go_simp; rfl))); intro g9 hg9 w_l hk9 hb9; have HK9 := Aside0.mk hk9; have HBl := Aside0.mk (below_step HBox.out hb9); have HRl := Aside0.mk (pw_own_below HR.out HBl.out); have HVl := Aside0.mk (pw_own_below HVx.out hb9); clear hg9 hk9 hb9) | (refine gate_ (.call { callee := .builtin .append, args := #[.tmp 85, .tmp 87], argTypes := #[94, 94] }) rfl ?_; refine ev_append (.tmp 85) (.tmp 87) 94 97 rfl rfl w.heap.size _ 20 208 Tryd.underlying94 info97 rfl (by decide) (.slice A' ops.length c') ops.length (ops.flatMap Opn.c) rfl HRl.out ⟨g9, 0, none⟩ 1 1 y2.c rfl rfl ?n1 ?n2 ?n3 ?n4 ?n5 ?_; (case n1 => exact fun j u hu => by rw [add_plain, blk_cell HK9.out j, List.getElem?_toArray]; exact hu); (case n2 => exact HY2O.out); (case n3 => exact HSZ.out.1); (case n4 => exact HSZ.out.2); (case n5 => exact Nat.le_trans HB.out.size HBl.out.size); intro v1 w_a ho1 hm1 _ _; have HO1 := Aside0.mk ho1; have HM1 := Aside0.mk hm1; clear ho1 hm1))
                  rw [Exit.noGoto_normal]
                  go_wp2
                  go_roundg (evs.length - (i + 1))
                  case measure => have := HI.out; have := HN.out; omega
                  case rel => exact OpsAt.push HI.out HX.out HCALL.out HO.out HR.out HV.out HKV.out HB.out HBl.out y2 HY2S.out HVl.out HY2K.out HO1.out HM1.out _ rfl
            · obtain rfl : k = N := by have := HN.out; omega
              have r5 : decide ((k : Int) < (k : Int)) = false := decide_eq_false (by omega)
              have HRE := Aside0.mk (show retAt x.tk (evs.map Evt.sp) (i + 1) = none by rw [hret]; exact ret_end (by rw [List.length_map]; have := HN.out; omega))
              obtain ⟨y2, hy2⟩ : ∃ y2 : Opn, y2 = y1 := ⟨_, rfl⟩
              have K8x := Aside0.mk (show wr.heap[g8]? = some (.cells y2.c.toArray 97 (0, 0)) by rw [hy2]; exact K8i.out)
              have HBox := Aside0.mk (below_step HB3w.out hb)
              have HVx := Aside0.mk (show wr.ownsRow w.heap.size 35 4 (.slice y2.vA y2.vs.length y2.vc) y2.vs.length (y2.vs.flatMap Fd.c) by rw [hy2, HY1.out]; exact own_nil _ _ _ _)
              have HY2K := Aside0.mk (show y2.kv.oneCell' = true by rw [hy2, HY1.out]; rfl)
              have HY2S := Aside0.mk (show y2.sp = opOf (evs.map Evt.sp) i x.sp by
                unfold opOf
                rw [show x.sp.tk = x.tk from rfl, HRE.out, hy2, HY1.out]
                rfl)
              clear hk hik hret hb hkn hy2
              have HY2O := Aside0.mk (op_ones y2 HY2K.out)
              have HSZ := Aside0.mk (show ops.length + 1 ≤ maxLen ∧ (ops.length + 1) * 208 ≤ 140737488355328 by have h1 := opsK_le key (evs.map Evt.sp) i; rw [← HO.out, List.length_map] at h1; unfold maxLen; omega)
              go_wp2_with (first | (refine gate_ (.load 97 (.tmp 8)) rfl ?_; refine ev_load_row (.load 97 (.tmp 8)) rfl rfl 97 (.tmp 8) rfl g8 rfl 97 y2.c.toArray _ K8x.out Tryd.underlying97 rfl (by kernel_rfl) ?_) | (refine gate_ (.buildSlice 94 1 #[(0, .tmp 86)]) rfl ?_; refine ev_lit (.buildSlice 94 1 #[(0, .tmp 86)]) rfl rfl 1 y2.c.toArray 97 ?hr ?_; (case hr => (simp only [Opn.c]; first | (go_simp; done) | (go_simp; rfl))); intro g9 hg9 w_l hk9 hb9; have HK9 := Aside0.mk hk9; have HBl := Aside0.mk (below_step HBox.out hb9); have HRl := Aside0.mk (pw_own_below HR.out HBl.out); have HVl := Aside0.mk (pw_own_below HVx.out hb9); clear hg9 hk9 hb9) | (refine gate_ (.call { callee := .builtin .append, args := #[.tmp 85, .tmp 87], argTypes := #[94, 94] }) rfl ?_; refine ev_append (.tmp 85) (.tmp 87) 94 97 rfl rfl w.heap.size _ 20 208 Tryd.underlying94 info97 rfl (by decide) (.slice A' ops.length c') ops.length (ops.flatMap Opn.c) rfl HRl.out ⟨g9, 0, none⟩ 1 1 y2.c rfl rfl ?n1 ?n2 ?n3 ?n4 ?n5 ?_; (case n1 => exact fun j u hu => by rw [add_plain, blk_cell HK9.out j, List.getElem?_toArray]; exact hu); (case n2 => exact HY2O.out); (case n3 => exact HSZ.out.1); (case n4 => exact HSZ.out.2); (case n5 => exact Nat.le_trans HB.out.size HBl.out.size); intro v1 w_a ho1 hm1 _ _; have HO1 := Aside0.mk ho1; have HM1 := Aside0.mk hm1; clear ho1 hm1))
              rw [Exit.noGoto_normal]
              go_wp2
              go_roundg (evs.length - (i + 1))
              case measure => have := HI.out; have := HN.out; omega
              case rel => exact OpsAt.push HI.out HX.out HCALL.out HO.out HR.out HV.out HKV.out HB.out HBl.out y2 HY2S.out HVl.out HY2K.out HO1.out HM1.out _ rfl
    · obtain rfl : i = N := by have := HN.out; omega
      have r1 : decide ((i : Int) < (i : Int)) = false := decide_eq_false (by omega)
      clear hi hops hrow hvals hkvs hB hlt
      go_wp2
      go_ret
      refine ⟨ops, A', c', rfl, HO.out, ?_, ?_, HKV.out, HB.out⟩
      · obtain ⟨A1, c1, e1, h1⟩ := arg_of_own op_len HR.out rfl (by have h1 := opsK_le key (evs.map Evt.sp) i; rw [← HO.out, List.length_map] at h1; omega)
        injection e1 with e1
        subst e1
        exact h1
      · intro o ho
        have hov := HV.out o ho
        obtain ⟨A1, c1, e1, h1⟩ := arg_of_own fd_len hov rfl (own_len hov)
        injection e1 with e1
        subst e1
        exact h1
end Go.Proofs.YtepklobkppdliaaDoor.Hs
namespace Go.Proofs.YtepklobkppdliaaDoor.Hs
open Go.RowKit Go.Proofs.YtepklobkppdliaaDoorW.PrintWords Go.Proofs.YtepklobkppdliaaDoorW.PrintLast Go.Proofs.YtepklobkppdliaaDoorW.PrintMore Go.Proofs.YtepklobkppdliaaDoor.Lib Go.Proofs.YtepklobkppdliaaDoor.Open Go.Proofs.YtepklobkppdliaaDoor.Md
open Go.Maps (Keyed IsMap)
theorem pow_lt {W : World} (h : Pow W) : 0 < W.heap.size := by
  unfold Md.Pow Lib.TabIs World.var? at h
  rw [powGlobal] at h
  rcases Nat.lt_or_ge 0 W.heap.size with h' | h'
  · exact h'
  · rw [Option.bind_some, Array.getElem?_eq_none h'] at h
    simp at h
def Osp.op (s : Osp) : Opn := ⟨s.fr, s.ti, s.r, .slice none 0 0, s.a, none, 0, s.vs⟩
def gop (o : Opn) : Opn := o.sp.op
theorem zip_map (ops : List Opn) : (ops.map gop).zipIdx = ops.zipIdx.map (fun p => (gop p.1, p.2)) := by
  rw [List.zipIdx_map]
  rfl
theorem left_sp (ops : List Opn) (d : Nat) : leftB (ops.map gop) d = leftB ops d := by
  unfold leftB
  rw [zip_map, List.any_map]
  rfl
theorem may_sp (ops : List Opn) (i d : Nat) : mayB (ops.map gop) i d = mayB ops i d := by
  unfold mayB
  rw [zip_map, List.all_map, List.getElem?_map, Option.map_map]
  rfl
theorem try_sp (rec rec' : Nat → En → Bool) (key : ByteArray) (ops : List Opn) (i d : Nat) (e : En) (h : ∀ d e, rec d e = rec' d e) : tryG rec key (ops.map gop) i d e = tryG rec' key ops i d e := by
  unfold tryG
  rw [List.getElem?_map]
  cases ops[i]? with
  | none => rfl
  | some o =>
    simp only [Option.map_some]
    rw [h, h]
    rfl
theorem from_sp (key : ByteArray) (ops : List Opn) : ∀ m d e, fromB key (ops.map gop) m d e = fromB key ops m d e
  | 0, _, _ => rfl
  | m + 1, d, e => by
    unfold fromB
    rw [left_sp, List.length_map]
    congr 2
    funext i
    rw [may_sp, try_sp _ _ key ops i d e (fun d e => from_sp key ops m d e), try_sp _ _ key ops i d z104 (fun d e => from_sp key ops m d e)]
/-- Is there an order of calls? -/
def orderB (key : ByteArray) (l : List Osp) : Bool := fromB key (l.map Osp.op) l.length 0 z104
structure SpOk (s : Osp) : Prop where
  verb : s.r.verb ≠ 13 ∧ s.r.verb ≠ 2 ∧ s.r.verb ≠ 8
  exp : s.r.exp = 0
  data : s.r.data.size ≤ 140737488355328
  delta : 0 ≤ s.r.delta
  fl : (Lit.int .i64 s.r.fl).wf = true
theorem cnt_none (N : Nat) : cnt N 0 = N := by
  induction N with
  | zero => rfl
  | succ N ih =>
    unfold cnt
    rw [ih, Nat.zero_testBit]
    simp
theorem gain10 : ∀ m ≤ 10, gain m ≤ 4611686018427387904 := by decide +kernel
def CheckAt (w0 : World) (n : Nat) (R : Nat) (s : Value) (wr : World) : Prop := ∃ k : Nat, k + R = n ∧ s = .int .i64 (k : Int) ∧ Below w0.heap.size w0 wr
set_option maxHeartbeats 16000000 in
set_option maxRecDepth 100000 in
theorem check_calls (A : Option Addr) (cap : Nat) (evs : List Evt) (key : ByteArray) (w : World) (L : List Osp) (hE : Evs w A evs) (hL : opsK key (evs.map Evt.sp) evs.length = L) (hLn : L.length ≤ 10) (hOk : ∀ s ∈ L, SpOk s) (ht : Pow w) :
    Calls Tryd.prog 30 #[.slice A evs.length cap, .string key] w fun e_ w' => e_ = .returned (.tuple #[.bool (orderB key L), .bool true]) ∧ Below w.heap.size w w' := by
  have HE := Aside0.mk hE
  have HL := Aside0.mk hL
  have HLN := Aside0.mk hLn
  have HOk := Aside0.mk hOk
  have HT := Aside0.mk ht
  have H0 := Aside0.mk (show 0 < w.heap.size from pow_lt ht)
  have hmm := @run_makeMap Tryd.prog
  clear hE hL hLn hOk ht
  go_enter Tryd.func30, Tryd.ntmps30
  go_upto_region 2 with (go_at_call 45; (refine (ops_calls A cap evs key _ HE.out).mono ?_); rintro e_1 w_0 ⟨ops, A', c', rfl, hops, harg, hvals, hkvs, hb⟩; have HOPS := Aside0.mk hops; have HARG := Aside0.mk harg; have HVALS := Aside0.mk hvals; have HKVS := Aside0.mk hkvs; have HB := Aside0.mk hb; clear hops harg hvals hkvs hb)
  have hlen : ops.length = L.length := by
    have := congrArg List.length HOPS.out
    rw [HL.out, List.length_map] at this
    exact this
  obtain ⟨N, hN⟩ : ∃ N, N = ops.length := ⟨_, rfl⟩
  have HN := Aside0.mk hN
  have HLEN := Aside0.mk hlen
  have hN10 : (N : Int) ≤ 10 := by have := HLN.out; omega
  have hN10' : decide ((10 : Int) < (N : Int)) = false := decide_eq_false (by omega)
  have HOP1 := Aside0.mk (show ∀ o ∈ ops, SpOk o.sp from fun o ho => HOk.out _ (by rw [← HL.out, ← HOPS.out]; exact List.mem_map_of_mem ho))
  rw [← hN]
  clear hN hlen
  go_wp2
  go_loopg [19] N (fun R s wr => CheckAt w_0 N R s wr)
  case atStart => exact ⟨0, by omega, rfl, Below.refl _ _⟩
  case round =>
    obtain ⟨k, hk, rfl, hb⟩ := hrel
    have HK := Aside0.mk hk
    have HB2 := Aside0.mk hb
    by_cases hlt : k < N
    · obtain ⟨y, hy⟩ : ∃ y, ops[k]? = some y := ⟨_, List.getElem?_eq_getElem (by have := HN.out; omega)⟩
      obtain ⟨q, off, rfl, hr⟩ := (HARG.out.below HB2.out).at_ op_len k y hy
      have hym := List.mem_of_getElem? hy
      have HYO := Aside0.mk (op_one y (HKVS.out y hym))
      have hyk := HOP1.out y hym
      have v2 : (y.r.verb == 2) = false := beq_eq_false_iff_ne.2 hyk.verb.2.1
      have v8 : (y.r.verb == 8) = false := beq_eq_false_iff_ne.2 hyk.verb.2.2
      have vx : (y.r.exp != 0) = false := by rw [show y.r.exp = 0 from hyk.exp]; rfl
      have HR := Aside0.mk hr
      have r1 : decide ((k : Int) < (N : Int)) = true := decide_eq_true (by omega)
      have r2 : (k : Int) < (N : Int) := by omega
      clear hk hb hlt hy hr hym hyk
      go_wp2_with (first | (refine gate_ (.load 97 (.tmp 21)) rfl ?_; refine ev_load_mid (.load 97 (.tmp 21)) rfl rfl 97 (.tmp 21) rfl q (off + k * 20) ?x1 y.c _ HR.out Tryd.underlying97 rfl ?x3 ?_; (case x1 => rfl); (case x3 => kernel_rfl)) | (refine gate_ (.store 97 (.tmp 8) (.tmp 22)) rfl ?_; refine ev_store_row (.store 97 (.tmp 8) (.tmp 22)) rfl rfl rfl 97 (.tmp 8) (.tmp 22) rfl wr.heap.size y.c.toArray rfl rfl 97 Z97 (blk_new wr (.cells Z97 97)) ?y1 rfl HYO.out ?_; (case y1 => kernel_rfl); intro w_1 hw1 hm1; have HB1 := Aside0.mk (fresh_blk hm1); have k2 : w_1.cell? ⟨wr.heap.size, 2, none⟩ = some (.int .i64 y.r.verb) := blk_cell hw1 2; have k5 : w_1.cell? ⟨wr.heap.size, 5, none⟩ = some (.int .i64 y.r.exp) := blk_cell hw1 5; clear hw1 hm1))
      go_roundg (N - (k + 1))
      case measure => have := HK.out; omega
      case rel => exact ⟨k + 1, by have := HK.out; omega, by go_num, below_step HB2.out HB1.out⟩
    · obtain rfl : k = N := by omega
      have r1 : decide ((k : Int) < (k : Int)) = false := decide_eq_false (by omega)
      clear hk hb hlt
      have HBw := Aside0.mk (below_step HB.out HB2.out)
      have HSe := Aside0.mk (show Se ((wr.alloc (.map #[] 0)).alloc (.cells #[.string key, .slice A' k c', .map (some wr.heap.size)] 101)) (wr.heap.size + 1) wr.heap.size 0 key A' c' ops from by
        have s1 : (wr.alloc (.map #[] 0)).heap.size = wr.heap.size + 1 := by simp
        have hb2 : Below wr.heap.size wr ((wr.alloc (.map #[] 0)).alloc (.cells #[.string key, .slice A' k c', .map (some wr.heap.size)] 101)) := below_alloc (below_alloc (Below.refl _ _) _) _
        refine ⟨⟨?_, (HARG.out.below HB2.out).below hb2, fun o ho => ((HVALS.out o ho).below HB2.out).below hb2, HKVS.out⟩, (Ts.new wr _).below (below_alloc (Below.refl _ _) _), (HT.out.below HBw.out).below hb2, Nat.lt_of_lt_of_le H0.out HBw.out.size⟩
        rw [← HN.out, ← s1]
        exact blk_new _ _)
      have HG := Aside0.mk (show 0 + gain k ≤ 4611686018427387904 by rw [Nat.zero_add]; exact gain10 k (by omega))
      have HC := Aside0.mk (show cnt ops.length 0 = k by rw [cnt_none]; exact HN.out.symm)
      have HV := Aside0.mk (show fromB key ops k 0 z104 = orderB key L by
        unfold orderB
        rw [← HLEN.out, ← HL.out, ← HOPS.out, List.map_map, ← HN.out]
        exact (from_sp key ops k 0 z104).symm)
      have HOKA := Aside0.mk (show ∀ o ∈ ops, OpOk o from fun o ho => ⟨(HOP1.out o ho).verb.1, (HOP1.out o ho).data, (HOP1.out o ho).delta, (HOP1.out o ho).fl⟩)
      have HL10 := Aside0.mk (show ops.length ≤ 10 by have := HN.out; omega)
      go_wp2_with (go_at_call 46; (refine (from_calls (wr.heap.size + 1) wr.heap.size key A' c' ops HL10.out HOKA.out k 0 z104 _ 0 HC.out (by decide) z_ok HSe.out HG.out).mono ?_); rintro e_1 w_5 ⟨rfl, _, hm5⟩; rw [HV.out]; have HM5 := Aside0.mk hm5; clear hm5)
      go_ret2
      exact ⟨rfl, HM5.out.after (below_step HBw.out (below_alloc (below_alloc (Below.refl _ _) _) _)) (Nat.le_trans HBw.out.size (by simp; omega)) (fun q_ hq => by rw [hq]; exact HBw.out.size)⟩
end Go.Proofs.YtepklobkppdliaaDoor.Hs
namespace Go.Proofs.YtepklobkppdliaaDoor.Hs
open Go.RowKit Go.Proofs.YtepklobkppdliaaDoorW.PrintWords Go.Proofs.YtepklobkppdliaaDoorW.PrintLast Go.Proofs.YtepklobkppdliaaDoorW.PrintMore Go.Proofs.YtepklobkppdliaaDoor.Lib Go.Proofs.YtepklobkppdliaaDoor.Open Go.Proofs.YtepklobkppdliaaDoor.Md
open Go.Maps (Keyed IsMap)
theorem all_of_list {l : List Value} (h : ∀ u ∈ l, u.oneCell' = true) : l.toArray.all (·.oneCell') = true := all_oneCell_toArray h
def cRq (verb : Int) (data : ByteArray) : Rq := ⟨verb, 0, 0, 0, 0, 0, false, data⟩
def zRq : Rq := ⟨0, 0, 0, 0, 0, 0, false, ⟨#[]⟩⟩
/-- A slice that can be read; its block is known by its type. -/
structure ArgT {α : Type} (cl : α → List Value) (t : TypeId) (w : World) (A : Option Addr) (n : Nat) (xs : List α) : Prop where
  arg : Arg cl w A n xs
  typ : 0 < n → ∃ b o cs, A = some ⟨b, o, none⟩ ∧ w.heap[b]? = some (.cells cs t (0, 0))
theorem ArgT.below {α : Type} {cl : α → List Value} {t : TypeId} {w W : World} {A : Option Addr} {n : Nat} {xs : List α} (h : ArgT cl t w A n xs) (hb : Below w.heap.size w W) : ArgT cl t W A n xs :=
  ⟨h.arg.below hb, fun hn => by
    obtain ⟨b, o, cs, e, hh⟩ := h.typ hn
    exact ⟨b, o, cs, e, (hb.block _ (blk_lt hh)).trans hh⟩⟩
theorem ArgT.far {α : Type} {cl : α → List Value} {t : TypeId} {S : Nat → Prop} {w W : World} {A : Option Addr} {n : Nat} {xs : List α} (h : ArgT cl t w A n xs) (hm : Mod S w W) (hS : ∀ b cs, w.heap[b]? = some (.cells cs t (0, 0)) → ¬ S b) : ArgT cl t W A n xs :=
  ⟨⟨h.arg.1, h.arg.2.1, fun hn => by
    obtain ⟨b, o, cs, e, hh⟩ := h.typ hn
    obtain ⟨b2, o2, e2, hr⟩ := h.arg.2.2 hn
    rw [e] at e2
    simp only [Option.some.injEq, Addr.mk.injEq, and_true] at e2
    obtain ⟨rfl, rfl⟩ := e2
    refine ⟨b, o, e, fun j u hu => ?_⟩
    rw [mod_cell hm (hS b cs hh) (blk_lt hh)]
    exact hr j u hu⟩, fun hn => by
    obtain ⟨b, o, cs, e, hh⟩ := h.typ hn
    exact ⟨b, o, cs, e, hm.blk hh (hS b cs hh)⟩⟩
/-- An event whose keys and values can be read. -/
structure EvOk (w : World) (e : Evt) : Prop where
  keys : ArgT kcl 9 w e.kA e.ks.length e.ks ∧ e.ks.length ≤ 1000000
  vals : ArgT Fd.c 35 w e.vA e.vs.length e.vs ∧ e.vs.length ≤ 1000000
  plain : e.kind = 1 → e.r.verb ≠ 13
theorem EvOk.below {w W : World} {e : Evt} (h : EvOk w e) (hb : Below w.heap.size w W) : EvOk W e := ⟨⟨h.keys.1.below hb, h.keys.2⟩, ⟨h.vals.1.below hb, h.vals.2⟩, h.plain⟩
/-- What an event leads to stays when a row of events is written. -/
theorem evok_mod {w w1 : World} {B n : Nat} {e : Evt} {v : Value} {xs : List Value} (h : EvOk w e) (hm : Mod (fun k => some k = v.ownBlock) w w1) (hr : w.ownsRow B 59 20 v n xs) : EvOk w1 e := by
  have key : ∀ t : TypeId, t ≠ 59 → ∀ b cs, w.heap[b]? = some (.cells cs t (0, 0)) → ¬ some b = v.ownBlock := fun t ht b cs hb e => by
    obtain ⟨dd, hdd⟩ := own_typed hr b e.symm
    rw [hb] at hdd
    injection hdd with hdd
    injection hdd with _ hdd
    exact ht hdd
  exact ⟨⟨h.keys.1.far hm (key 9 (by decide)), h.keys.2⟩, ⟨h.vals.1.far hm (key 35 (by decide)), h.vals.2⟩, h.plain⟩
theorem arg_nil {α : Type} (cl : α → List Value) (t : TypeId) (w : World) (A : Option Addr) : ArgT cl t w A 0 [] := ⟨⟨rfl, by omega, fun h => absurd h (by omega)⟩, fun h => absurd h (by omega)⟩
theorem arg_one {α : Type} {cl : α → List Value} {w : World} {g : Nat} {t : TypeId} {x : α} {cs : Array Value} (h : w.heap[g]? = some (.cells cs t (0, 0))) (hc : cs = (cl x).toArray) : ArgT cl t w (some ⟨g, 0, none⟩) 1 [x] :=
  ⟨⟨rfl, by omega, fun _ => ⟨g, 0, rfl, fun j u hu => by
    rw [blk_cell h, Nat.zero_add, hc, List.getElem?_toArray]
    simpa using hu⟩⟩, fun _ => ⟨g, 0, cs, rfl, h⟩⟩
def cEv (t verb : Int) (key data : ByteArray) (gk : Nat) : Evt := ⟨1, t, cRq verb data, some ⟨gk, 0, none⟩, 1, [key], zAw, none, 0, []⟩
def bEv (t : Int) (a : Aw) (vA : Option Addr) (vc : Nat) (vs : List Fd) : Evt := ⟨2, t, zRq, none, 0, [], a, vA, vc, vs⟩
set_option maxHeartbeats 4000000 in
set_option maxRecDepth 100000 in
theorem call_calls (t verb : Int) (key data : ByteArray) (w : World) (hv : verb ≠ 13) :
    Calls Tryd.prog 25 #[.int .i64 t, .int .i64 verb, .string key, .string data] w fun e w' => ∃ gk, e = .returned (.agg (cEv t verb key data gk).c.toArray) ∧ EvOk w' (cEv t verb key data gk) ∧ Below w.heap.size w w' := by
  have HV := Aside0.mk hv
  have s1 : ∀ o, (w.alloc o).heap.size = w.heap.size + 1 := fun o => by simp
  have HS := Aside0.mk s1
  clear hv s1
  go_enter Tryd.func25, Tryd.ntmps25
  go_wp2_with (refine gate_ (.store 59 (.tmp 8) (.tmp 15)) rfl ?_; refine ev_store_row (.store 59 (.tmp 8) (.tmp 15)) rfl rfl rfl 59 (.tmp 8) (.tmp 15) rfl w.heap.size (cEv t verb key data (w.heap.size + 1)).c.toArray rfl rfl 59 Z97 (blk_alloc (blk_new w (.cells Z97 59)) _) ?y1 rfl (all_of_list (evt_one _)) ?_; (case y1 => kernel_rfl); intro w_1 hw1 hm1; have HW1 := Aside0.mk hw1; have HM1 := Aside0.mk hm1; clear hw1 hm1)
  refine bodyPost_ret (results_cell_row rfl _ _ w.heap.size 59 _ (0, 0) _ rfl HW1.out Tryd.underlying59 rfl (by kernel_rfl)) rfl ⟨w.heap.size + 1, rfl, ⟨⟨?_, (by show 1 ≤ 1000000; omega)⟩, ⟨arg_nil _ _ _ _, (by show 0 ≤ 1000000; omega)⟩, fun _ => HV.out⟩, HM1.out.after (below_alloc (below_alloc (Below.refl _ _) _) _) (by simp; omega) (fun q hq => Nat.le_of_eq hq.symm)⟩
  refine arg_one (t := 9) (cs := #[.string key]) (HM1.out.blk ?_ (by omega)) rfl
  rw [← HS.out (.cells Z97 59)]
  exact blk_new _ _
set_option maxHeartbeats 4000000 in
set_option maxRecDepth 100000 in
theorem back_calls (t : Int) (a : Aw) (vA : Option Addr) (vc : Nat) (vs : List Fd) (w : World) :
    Calls Tryd.prog 26 #[.int .i64 t, .agg (a.c (.slice vA vs.length vc))] w fun e w' => e = .returned (.agg (bEv t a vA vc vs).c.toArray) ∧ Below w.heap.size w w' := by
  have s1 : ∀ o, (w.alloc o).heap.size = w.heap.size + 1 := fun o => by simp
  have HS := Aside0.mk s1
  clear s1
  simp only [Aw.c]
  go_enter Tryd.func26, Tryd.ntmps26
  go_wp2_with (refine gate_ (.store 59 (.tmp 4) (.tmp 7)) rfl ?_; refine ev_store_row (.store 59 (.tmp 4) (.tmp 7)) rfl rfl rfl 59 (.tmp 4) (.tmp 7) rfl (w.heap.size + 1) (bEv t a vA vc vs).c.toArray rfl rfl 59 Z97 ?y0 ?y1 rfl (all_of_list (evt_one _)) ?_; (case y0 => rw [← HS.out (.cells (a.c (.slice vA vs.length vc)) 32)]; exact blk_new _ _); (case y1 => kernel_rfl); intro w_1 hw1 hm1; have HW1 := Aside0.mk hw1; have HM1 := Aside0.mk hm1; clear hw1 hm1)
  exact bodyPost_ret (results_cell_row rfl _ _ (w.heap.size + 1) 59 _ (0, 0) _ rfl HW1.out Tryd.underlying59 rfl (by kernel_rfl)) rfl ⟨rfl, HM1.out.after (below_alloc (below_alloc (Below.refl _ _) _) _) (by simp; omega) (fun q hq => by omega)⟩
def tAw : Aw := ⟨1, false, 0, ⟨#[]⟩, 0, 0, 0, 0⟩
def keyA : ByteArray := ⟨#[97]⟩
set_option maxHeartbeats 4000000 in
set_option maxRecDepth 100000 in
theorem told_made (v : ByteArray) (w : World) :
    Calls Tryd.prog 28 #[.string v] w fun e w' => ∃ g, e = .returned (.agg (tAw.c (.slice (some ⟨g, 0, none⟩) 1 1))) ∧ ArgT Fd.c 35 w' (some ⟨g, 0, none⟩) 1 [⟨keyA, 0, v, 0⟩] ∧ Below w.heap.size w w' := by
  have s1 : ∀ o, (w.alloc o).heap.size = w.heap.size + 1 := fun o => by simp
  have HS := Aside0.mk s1
  clear s1
  go_enter Tryd.func28, Tryd.ntmps28
  go_wp2
  refine bodyPost_ret (results_cell_row rfl _ _ w.heap.size 32 (tAw.c (.slice (some ⟨w.heap.size + 1, 0, none⟩) 1 1)) (0, 0) _ rfl (blk_alloc (blk_new w _) _) Tryd.underlying32 rfl (by kernel_rfl)) rfl ⟨w.heap.size + 1, rfl, arg_one (t := 35) (cs := (Fd.c ⟨keyA, 0, v, 0⟩).toArray) ?_ rfl, below_alloc (below_alloc (Below.refl _ _) _) _⟩
  rw [heap_at, if_pos (by simp)]
  rfl
set_option maxHeartbeats 4000000 in
set_option maxRecDepth 100000 in
theorem toList_loop (a : ByteArray) (n : Nat) : ∀ (i : Nat) (r : List UInt8), i + n = a.size → ByteArray.toList.loop a i r = r.reverse ++ a.data.toList.drop i := by
  induction n with
  | zero =>
    intro i r h
    unfold ByteArray.toList.loop
    rw [if_neg (by omega), List.drop_eq_nil_of_le (by show a.data.toList.length ≤ i; rw [Array.length_toList]; show a.size ≤ i; omega), List.append_nil]
  | succ n ih =>
    intro i r h
    have hi : i < a.data.toList.length := by rw [Array.length_toList]; show i < a.size; omega
    unfold ByteArray.toList.loop
    rw [if_pos (by omega), ih (i + 1) _ (by omega), List.drop_eq_getElem_cons hi]
    have hg : a.get! i = a.data.toList[i] := by
      show a.data[i]! = _
      rw [getElem!_pos a.data i (by rw [Array.length_toList] at hi; exact hi)]
      simp
    rw [hg]
    simp
theorem toList_data (a : ByteArray) : a.toList = a.data.toList := by
  unfold ByteArray.toList
  rw [toList_loop a a.size 0 [] (by omega)]
  simp
theorem is_calls (want : Bool) (A : Option Addr) (cap : Nat) (evs : List Evt) (w : World) (L : List Osp) (b : Bool) (hE : Evs w A evs) (hL : opsK keyA (evs.map Evt.sp) evs.length = L) (hLn : L.length ≤ 10) (hOk : ∀ s ∈ L, SpOk s) (hb : orderB keyA L = b) (ht : Pow w) :
    Calls Tryd.prog 27 #[.bool want, .slice A evs.length cap] w fun e_ w' => e_ = .returned (.bool (b == want)) ∧ Below w.heap.size w w' := by
  have HE := Aside0.mk hE
  have HL := Aside0.mk hL
  have HLN := Aside0.mk hLn
  have HOk := Aside0.mk hOk
  have HT := Aside0.mk ht
  have HBv := Aside0.mk hb
  clear hE hL hLn hOk ht hb
  cases hq : (b == want)
  · go_enter Tryd.func27, Tryd.ntmps27
    go_wp2_with (go_at_call 30; (refine (check_calls A cap evs keyA _ L HE.out HL.out HLN.out HOk.out HT.out).mono ?_); rintro e_1 w_1 ⟨rfl, hb⟩; rw [HBv.out]; have HB := Aside0.mk hb; clear hb)
    go_ret
    exact ⟨rfl, HB.out⟩
  · go_enter Tryd.func27, Tryd.ntmps27
    go_wp2_with (go_at_call 30; (refine (check_calls A cap evs keyA _ L HE.out HL.out HLN.out HOk.out HT.out).mono ?_); rintro e_1 w_1 ⟨rfl, hb⟩; rw [HBv.out]; have HB := Aside0.mk hb; clear hb)
    go_ret
    exact ⟨rfl, HB.out⟩
end Go.Proofs.YtepklobkppdliaaDoor.Hs
namespace Go.Proofs.YtepklobkppdliaaDoor.Hs
open Go.RowKit Go.Proofs.YtepklobkppdliaaDoorW.PrintWords Go.Proofs.YtepklobkppdliaaDoorW.PrintLast Go.Proofs.YtepklobkppdliaaDoorW.PrintMore Go.Proofs.YtepklobkppdliaaDoor.Lib Go.Proofs.YtepklobkppdliaaDoor.Open Go.Proofs.YtepklobkppdliaaDoor.Md
open Go.Maps (Keyed IsMap)
def kx : ByteArray := ⟨#[120]⟩
def ky : ByteArray := ⟨#[121]⟩
def eE : ByteArray := ⟨#[]⟩
def sAw (k : Int) : Aw := ⟨k, false, 0, ⟨#[]⟩, 0, 0, 0, 0⟩
def cSp (t verb : Int) (key data : ByteArray) : Esp := ⟨1, t, cRq verb data, [key], zAw, []⟩
def bSp (t : Int) (a : Aw) (vs : List Fd) : Esp := ⟨2, t, zRq, [], a, vs⟩
def hA : List Esp := [cSp 1 3 keyA kx, bSp 1 (sAw 2) [], cSp 2 1 keyA eE, bSp 2 tAw [⟨keyA, 0, kx, 0⟩]]
def hB : List Esp := [cSp 1 3 keyA kx, bSp 1 (sAw 2) [], cSp 2 1 keyA eE, bSp 2 (sAw 1) []]
def hC : List Esp := [cSp 1 3 keyA kx, bSp 1 (sAw 2) [], cSp 2 1 keyA eE, bSp 2 tAw [⟨keyA, 0, ky, 0⟩]]
def hD : List Esp := [cSp 1 9 keyA eE, bSp 1 (sAw 6) []]
theorem ordA : orderB keyA (opsK keyA hA 4) = true := by decide +kernel
theorem ordB : orderB keyA (opsK keyA hB 4) = true := by decide +kernel
theorem ordC : orderB keyA (opsK keyA hC 4) = false := by decide +kernel
theorem ordD : orderB keyA (opsK keyA hD 2) = false := by decide +kernel
/-- A request that the search knows. -/
structure RqOk (r : Rq) : Prop where
  verb : r.verb ≠ 13 ∧ r.verb ≠ 2 ∧ r.verb ≠ 8
  exp : r.exp = 0
  data : r.data.size ≤ 140737488355328
  delta : 0 ≤ r.delta
  fl : (Lit.int .i64 r.fl).wf = true
theorem opsK_mem {key : ByteArray} {es : List Esp} : ∀ k s, s ∈ opsK key es k → ∃ e, e ∈ es ∧ isC key e = true ∧ s.r = e.r
  | 0, s, h => by cases h
  | k + 1, s, h => by
    unfold opsK at h
    rcases List.mem_append.1 h with h | h
    · exact opsK_mem k s h
    · cases he : es[k]? with
      | none => rw [he] at h; cases h
      | some e =>
        rw [he] at h
        simp only at h
        split at h
        · rename_i hc
          rw [List.mem_singleton.1 h]
          refine ⟨e, List.mem_of_getElem? he, hc, ?_⟩
          unfold opOf
          split <;> rfl
        · cases h
theorem opsK_ok {key : ByteArray} {es : List Esp} {k : Nat} (h : ∀ e ∈ es, isC key e = true → RqOk e.r) : ∀ s ∈ opsK key es k, SpOk s := fun s hs => by
  obtain ⟨e, he, hc, hr⟩ := opsK_mem k s hs
  have := h e he hc
  exact ⟨by rw [hr]; exact this.verb, by rw [hr]; exact this.exp, by rw [hr]; exact this.data, by rw [hr]; exact this.delta, by rw [hr]; exact this.fl⟩
theorem cRq_ok (verb : Int) (data : ByteArray) (hv : verb ≠ 13 ∧ verb ≠ 2 ∧ verb ≠ 8) (hd : data.size ≤ 140737488355328) : RqOk (cRq verb data) := ⟨hv, rfl, hd, Int.le_refl 0, rfl⟩
theorem call_ok {t verb : Int} {key data : ByteArray} (hv : verb ≠ 13 ∧ verb ≠ 2 ∧ verb ≠ 8) (hd : data.size ≤ 140737488355328) : isC keyA (cSp t verb key data) = true → RqOk (cSp t verb key data).r := fun _ => cRq_ok verb data hv hd
theorem back_no {t : Int} {a : Aw} {vs : List Fd} : isC keyA (bSp t a vs) = true → RqOk (bSp t a vs).r := fun h => by
  unfold isC bSp at h
  simp at h
theorem okL2 {a b : Esp} (h1 : isC keyA a = true → RqOk a.r) (h2 : isC keyA b = true → RqOk b.r) : ∀ e ∈ [a, b], isC keyA e = true → RqOk e.r := fun e he => by
  simp only [List.mem_cons, List.not_mem_nil, or_false] at he
  rcases he with rfl | rfl
  · exact h1
  · exact h2
theorem okL4 {a b c d : Esp} (h1 : isC keyA a = true → RqOk a.r) (h2 : isC keyA b = true → RqOk b.r) (h3 : isC keyA c = true → RqOk c.r) (h4 : isC keyA d = true → RqOk d.r) : ∀ e ∈ [a, b, c, d], isC keyA e = true → RqOk e.r := fun e he => by
  simp only [List.mem_cons, List.not_mem_nil, or_false] at he
  rcases he with rfl | rfl | rfl | rfl
  · exact h1
  · exact h2
  · exact h3
  · exact h4
theorem spA : ∀ s ∈ opsK keyA hA 4, SpOk s := opsK_ok (okL4 (call_ok (by decide) (by decide)) back_no (call_ok (by decide) (by decide)) back_no)
theorem spB : ∀ s ∈ opsK keyA hB 4, SpOk s := opsK_ok (okL4 (call_ok (by decide) (by decide)) back_no (call_ok (by decide) (by decide)) back_no)
theorem spC : ∀ s ∈ opsK keyA hC 4, SpOk s := opsK_ok (okL4 (call_ok (by decide) (by decide)) back_no (call_ok (by decide) (by decide)) back_no)
theorem spD : ∀ s ∈ opsK keyA hD 2, SpOk s := opsK_ok (okL2 (call_ok (by decide) (by decide)) back_no)
theorem info59 : (Tryd.prog.info? 59).map (fun i => (i.zero, i.size, i.bytes)) = some (some (.agg Z97), 20, 208) := by kernel_rfl
/-- A row of the call's own, as events. -/
theorem evs_of {w : World} {B n : Nat} {A : Option Addr} {c : Nat} {evs : List Evt} (h : w.ownsRow B 59 20 (.slice A n c) n (evs.flatMap Evt.c)) (hn : evs.length = n) (hf : n ≤ 1000000) (hk : ∀ e ∈ evs, EvOk w e) : Evs w A evs := by
  obtain ⟨A1, c1, e1, h1⟩ := arg_of_own evt_len h hn (own_len h)
  injection e1 with e1
  subst e1
  rw [← hn] at h1
  exact ⟨h1, fun e he => ⟨(hk e he).keys.1.arg, (hk e he).keys.2⟩, fun e he => ⟨(hk e he).vals.1.arg, (hk e he).vals.2⟩, by omega, fun e he => (hk e he).plain⟩
theorem evs_blk {w : World} {g : Nat} {cs : Array Value} {evs : List Evt} (h : w.heap[g]? = some (.cells cs 59 (0, 0))) (hc : cs = (evs.flatMap Evt.c).toArray) (hf : evs.length ≤ 1000000) (hk : ∀ e ∈ evs, EvOk w e) : Evs w (some ⟨g, 0, none⟩) evs :=
  ⟨⟨rfl, by omega, fun _ => ⟨g, 0, rfl, fun j u hu => by
    rw [blk_cell h, Nat.zero_add, hc, List.getElem?_toArray]
    exact hu⟩⟩, fun e he => ⟨(hk e he).keys.1.arg, (hk e he).keys.2⟩, fun e he => ⟨(hk e he).vals.1.arg, (hk e he).vals.2⟩, hf, fun e he => (hk e he).plain⟩
theorem bEv_ok {w : World} {t : Int} {a : Aw} {vA : Option Addr} {vc : Nat} {vs : List Fd} (h : ArgT Fd.c 35 w vA vs.length vs) (hl : vs.length ≤ 1000000) : EvOk w (bEv t a vA vc vs) := ⟨⟨arg_nil _ _ _ _, by show 0 ≤ 1000000; omega⟩, ⟨h, hl⟩, fun h => by cases h⟩
theorem mem2 {α : Type} {p : α → Prop} {a b : α} (h1 : p a) (h2 : p b) : ∀ x ∈ [a, b], p x := fun x hx => by
  simp only [List.mem_cons, List.not_mem_nil, or_false] at hx
  rcases hx with rfl | rfl
  · exact h1
  · exact h2
theorem mem4 {α : Type} {p : α → Prop} {a b c d : α} (h1 : p a) (h2 : p b) (h3 : p c) (h4 : p d) : ∀ x ∈ [a, b, c, d], p x := fun x hx => by
  simp only [List.mem_cons, List.not_mem_nil, or_false] at hx
  rcases hx with rfl | rfl | rfl | rfl
  · exact h1
  · exact h2
  · exact h3
  · exact h4
theorem flat4 (a b c d : Evt) : [a, b, c].flatMap Evt.c ++ d.c = [a, b, c, d].flatMap Evt.c := by simp
set_option maxHeartbeats 32000000 in
set_option maxRecDepth 100000 in
theorem hruns_calls (w : World) (ht : Pow w) : Calls Tryd.prog 10 #[] w fun e w' => e = .returned (.bool true) ∧ Below w.heap.size w w' := by
  have HT := Aside0.mk ht
  have HB := Aside0.mk (Below.refl w.heap.size w)
  clear ht
  go_enter Tryd.func10, Tryd.ntmps10
  go_wp2_with fail
  go_at_call 25
  refine (call_calls 1 3 keyA kx _ (by decide)).mono ?_
  rintro e_c w_1 ⟨gE1, rfl, hev, hb⟩
  have HT_n := Aside0.mk (HT.out.below hb)
  have HB_n := Aside0.mk (below_step HB.out hb)
  clear HT; have HT := HT_n; clear HT_n
  clear HB; have HB := HB_n; clear HB_n
  have E1 := Aside0.mk hev
  clear hev hb
  go_wp2_with fail
  go_at_call 26
  refine (back_calls 1 (sAw 2) none 0 [] _).mono ?_
  rintro e_c w_2 ⟨rfl, hb⟩
  have HT_n := Aside0.mk (HT.out.below hb)
  have HB_n := Aside0.mk (below_step HB.out hb)
  have E1_n := Aside0.mk (E1.out.below hb)
  clear HT; have HT := HT_n; clear HT_n
  clear HB; have HB := HB_n; clear HB_n
  clear E1; have E1 := E1_n; clear E1_n
  have E2 := Aside0.mk (show EvOk w_2 (bEv 1 (sAw 2) none 0 []) from bEv_ok (arg_nil _ _ _ _) (by decide))
  clear hb
  go_wp2_with fail
  go_at_call 25
  refine (call_calls 2 1 keyA eE _ (by decide)).mono ?_
  rintro e_c w_3 ⟨gE3, rfl, hev, hb⟩
  have HT_n := Aside0.mk (HT.out.below hb)
  have HB_n := Aside0.mk (below_step HB.out hb)
  have E1_n := Aside0.mk (E1.out.below hb)
  have E2_n := Aside0.mk (E2.out.below hb)
  clear HT; have HT := HT_n; clear HT_n
  clear HB; have HB := HB_n; clear HB_n
  clear E1; have E1 := E1_n; clear E1_n
  clear E2; have E2 := E2_n; clear E2_n
  have E3 := Aside0.mk hev
  clear hev hb
  obtain ⟨e1, he1⟩ : ∃ e1, e1 = cEv 1 3 keyA kx gE1 := ⟨_, rfl⟩
  obtain ⟨e2, he2⟩ : ∃ e2, e2 = bEv 1 (sAw 2) none 0 [] := ⟨_, rfl⟩
  obtain ⟨e3, he3⟩ : ∃ e3, e3 = cEv 2 1 keyA eE gE3 := ⟨_, rfl⟩
  rw [← he1, ← he2, ← he3]
  rw [← he1] at E1
  rw [← he2] at E2
  rw [← he3] at E3
  have S1 := Aside0.mk (show e1.sp = cSp 1 3 keyA kx by rw [he1]; rfl)
  have S2 := Aside0.mk (show e2.sp = bSp 1 (sAw 2) [] by rw [he2]; rfl)
  have S3 := Aside0.mk (show e3.sp = cSp 2 1 keyA eE by rw [he3]; rfl)
  clear he1 he2 he3
  go_upto_region 2 with (refine gate_ (.buildSlice 62 3 #[(0, .tmp 3), (1, .tmp 5), (2, .tmp 6)]) rfl ?_; refine ev_lit (.buildSlice 62 3 #[(0, .tmp 3), (1, .tmp 5), (2, .tmp 6)]) rfl rfl 3 ([e1, e2, e3].flatMap Evt.c).toArray 59 ?hr ?_; (case hr => (simp only [Evt.c, List.flatMap_cons, List.flatMap_nil]; first | (go_simp; done) | (go_simp; rfl))); intro gs hgs w_4 hks hbs; have KS0 := Aside0.mk hks; have HBs := Aside0.mk hbs; clear hgs hks hbs)
  have hb := HBs.out
  have HT_n := Aside0.mk (HT.out.below hb)
  have HB_n := Aside0.mk (below_step HB.out hb)
  have E1_n := Aside0.mk (E1.out.below hb)
  have E2_n := Aside0.mk (E2.out.below hb)
  have E3_n := Aside0.mk (E3.out.below hb)
  clear HT; have HT := HT_n; clear HT_n
  clear HB; have HB := HB_n; clear HB_n
  clear E1; have E1 := E1_n; clear E1_n
  clear E2; have E2 := E2_n; clear E2_n
  clear E3; have E3 := E3_n; clear E3_n
  clear hb HBs
  have KS := KS0
  clear KS0
  go_upto_region 3 with (first | (refine gate_ (.call { callee := .builtin .append, args := #[.tmp 8, .tmp 9], argTypes := #[62, 62] }) rfl ?_; refine ev_append (W := w_4.alloc (.cells #[] 59 (0, 0))) (.tmp 8) (.tmp 9) 62 59 rfl rfl w_4.heap.size _ 20 208 Tryd.underlying62 info59 rfl (by decide) _ 0 [] rfl (own_empty (Nat.le_refl _) (blk_new w_4 _)) ⟨gs, 0, none⟩ 3 3 ([e1, e2, e3].flatMap Evt.c) rfl (flat_length Evt.c 20 evt_len _) ?nkA (flat_one evt_one _) ?nlA ?nmA ?noA ?_; (case nkA => exact fun j u hu => by rw [add_plain, blk_cell (blk_alloc KS.out _) j, List.getElem?_toArray]; exact hu); (case nlA => unfold maxLen; omega); (case nmA => omega); (case noA => simp); intro vA wA1 ho hm _ _; rw [Nat.zero_add, List.nil_append] at ho; obtain ⟨AA, cA, rfl⟩ := own_slice ho; have RA := Aside0.mk ho; have KA := Aside0.mk (hm.after (below_alloc (Below.refl w_4.heap.size w_4) (.cells #[] 59 (0, 0))) (by simp) (fun q_ hq => Nat.le_of_eq (Option.some.inj (show some w_4.heap.size = some q_ from hq.symm)))); clear ho hm) | (go_at_call 28; refine (told_made kx _).mono ?_; rintro e_c wA2 ⟨gtA, rfl, hv, hb⟩; have RA_n := Aside0.mk (pw_own_below RA.out hb); have KA_n := Aside0.mk (below_step KA.out hb); clear RA; have RA := RA_n; clear RA_n; clear KA; have KA := KA_n; clear KA_n; have VA := Aside0.mk hv; clear hv hb) | (go_at_call 26; refine (back_calls 2 tAw (some ⟨gtA, 0, none⟩) 1 [⟨keyA, 0, kx, 0⟩] _).mono ?_; rintro e_c wA3 ⟨rfl, hb⟩; have RA_n := Aside0.mk (pw_own_below RA.out hb); have KA_n := Aside0.mk (below_step KA.out hb); clear RA; have RA := RA_n; clear RA_n; clear KA; have KA := KA_n; clear KA_n; obtain ⟨fA, hf⟩ : ∃ f, f = bEv 2 tAw (some ⟨gtA, 0, none⟩) 1 [⟨keyA, 0, kx, 0⟩] := ⟨_, rfl⟩; have FA := Aside0.mk (show EvOk wA3 fA by rw [hf]; exact bEv_ok (VA.out.below hb) (by decide)); have SA := Aside0.mk (show fA.sp = bSp 2 tAw [⟨keyA, 0, kx, 0⟩] by rw [hf]; rfl); rw [← hf]; clear hf hb) | (refine gate_ (.buildSlice 62 1 #[(0, .tmp 12)]) rfl ?_; refine ev_lit (.buildSlice 62 1 #[(0, .tmp 12)]) rfl rfl 1 fA.c.toArray 59 ?hrA ?_; (case hrA => (simp only [Evt.c]; first | (go_simp; done) | (go_simp; rfl))); intro glA hg wA4 hk hb; have RA_n := Aside0.mk (pw_own_below RA.out hb); have KA_n := Aside0.mk (below_step KA.out hb); have FA_n := Aside0.mk (FA.out.below hb); clear RA; have RA := RA_n; clear RA_n; clear KA; have KA := KA_n; clear KA_n; clear FA; have FA := FA_n; clear FA_n; have BA := Aside0.mk hk; clear hg hk hb) | (refine gate_ (.call { callee := .builtin .append, args := #[.tmp 10, .tmp 13], argTypes := #[62, 62] }) rfl ?_; refine ev_append (.tmp 10) (.tmp 13) 62 59 rfl rfl w_4.heap.size _ 20 208 Tryd.underlying62 info59 rfl (by decide) (.slice AA 3 cA) 3 ([e1, e2, e3].flatMap Evt.c) rfl RA.out ⟨glA, 0, none⟩ 1 1 fA.c rfl rfl ?pkA (evt_one _) ?plA ?pmA ?poA ?_; (case pkA => exact fun j u hu => by rw [add_plain, blk_cell BA.out j, List.getElem?_toArray]; exact hu); (case plA => unfold maxLen; omega); (case pmA => omega); (case poA => exact KA.out.size); intro uA wA5 ho hm _ _; rw [flat4] at ho; have hb : Below w_4.heap.size w_4 wA5 := KA.out.trans (hm.below (fun q_ hq => own_base RA.out q_ hq.symm) KA.out.size); obtain ⟨A2A, c2A, rfl⟩ := own_slice ho; have F2A := Aside0.mk (show EvOk wA5 fA from evok_mod FA.out hm RA.out); clear KA RA; have RA := Aside0.mk ho; have KA := Aside0.mk hb; clear ho hm hb) | (go_at_call 27; refine (is_calls true A2A c2A [e1, e2, e3, fA] _ (opsK keyA hA 4) true (evs_of RA.out rfl (by decide) (mem4 (E1.out.below KA.out) (E2.out.below KA.out) (E3.out.below KA.out) F2A.out)) ?q1A (Nat.le_trans (opsK_le _ _ _) (by decide)) spA ordA (HT.out.below KA.out)).mono ?_; (case q1A => rw [show [e1, e2, e3, fA].map Evt.sp = hA from by (show [e1.sp, e2.sp, e3.sp, fA.sp] = _; rw [S1.out, S2.out, S3.out, SA.out]; rfl)]; rfl); rintro e_c wA6 ⟨rfl, hb⟩; rw [show (true == true) = true from rfl]; have hbx : Below w_4.heap.size w_4 wA6 := below_step KA.out hb; clear hb; have HT_n := Aside0.mk (HT.out.below hbx); have HB_n := Aside0.mk (below_step HB.out hbx); have E1_n := Aside0.mk (E1.out.below hbx); have E2_n := Aside0.mk (E2.out.below hbx); have E3_n := Aside0.mk (E3.out.below hbx); have KS_n := Aside0.mk ((hbx.block _ (blk_lt KS.out)).trans KS.out); clear HT; have HT := HT_n; clear HT_n; clear HB; have HB := HB_n; clear HB_n; clear E1; have E1 := E1_n; clear E1_n; clear E2; have E2 := E2_n; clear E2_n; clear E3; have E3 := E3_n; clear E3_n; clear KS; have KS := KS_n; clear KS_n; clear hbx) | (refine gate_ (.call { callee := .builtin .append, args := #[.tmp 17, .tmp 18], argTypes := #[62, 62] }) rfl ?_; refine gate_guard (by kernel_rfl) ?_; refine ev_append (W := wA6.alloc (.cells #[] 59 (0, 0))) (.tmp 17) (.tmp 18) 62 59 rfl rfl wA6.heap.size _ 20 208 Tryd.underlying62 info59 rfl (by decide) _ 0 [] rfl (own_empty (Nat.le_refl _) (blk_new wA6 _)) ⟨gs, 0, none⟩ 3 3 ([e1, e2, e3].flatMap Evt.c) rfl (flat_length Evt.c 20 evt_len _) ?nkB (flat_one evt_one _) ?nlB ?nmB ?noB ?_; (case nkB => exact fun j u hu => by rw [add_plain, blk_cell (blk_alloc KS.out _) j, List.getElem?_toArray]; exact hu); (case nlB => unfold maxLen; omega); (case nmB => omega); (case noB => simp); intro vB wB1 ho hm _ _; rw [Nat.zero_add, List.nil_append] at ho; obtain ⟨AB, cB, rfl⟩ := own_slice ho; have RB := Aside0.mk ho; have KB := Aside0.mk (hm.after (below_alloc (Below.refl wA6.heap.size wA6) (.cells #[] 59 (0, 0))) (by simp) (fun q_ hq => Nat.le_of_eq (Option.some.inj (show some wA6.heap.size = some q_ from hq.symm)))); clear ho hm) | (go_at_call 26; refine (back_calls 2 (sAw 1) none 0 [] _).mono ?_; rintro e_c wB3 ⟨rfl, hb⟩; have RB_n := Aside0.mk (pw_own_below RB.out hb); have KB_n := Aside0.mk (below_step KB.out hb); clear RB; have RB := RB_n; clear RB_n; clear KB; have KB := KB_n; clear KB_n; obtain ⟨fB, hf⟩ : ∃ f, f = bEv 2 (sAw 1) none 0 [] := ⟨_, rfl⟩; have FB := Aside0.mk (show EvOk wB3 fB by rw [hf]; exact bEv_ok (arg_nil _ _ _ _) (by decide)); have SB := Aside0.mk (show fB.sp = bSp 2 (sAw 1) [] by rw [hf]; rfl); rw [← hf]; clear hf hb) | (refine gate_ (.buildSlice 62 1 #[(0, .tmp 21)]) rfl ?_; refine gate_guard (by kernel_rfl) ?_; refine ev_lit (.buildSlice 62 1 #[(0, .tmp 21)]) rfl rfl 1 fB.c.toArray 59 ?hrB ?_; (case hrB => (simp only [Evt.c]; first | (go_simp; done) | (go_simp; rfl))); intro glB hg wB4 hk hb; have RB_n := Aside0.mk (pw_own_below RB.out hb); have KB_n := Aside0.mk (below_step KB.out hb); have FB_n := Aside0.mk (FB.out.below hb); clear RB; have RB := RB_n; clear RB_n; clear KB; have KB := KB_n; clear KB_n; clear FB; have FB := FB_n; clear FB_n; have BB := Aside0.mk hk; clear hg hk hb) | (refine gate_ (.call { callee := .builtin .append, args := #[.tmp 19, .tmp 22], argTypes := #[62, 62] }) rfl ?_; refine gate_guard (by kernel_rfl) ?_; refine ev_append (.tmp 19) (.tmp 22) 62 59 rfl rfl wA6.heap.size _ 20 208 Tryd.underlying62 info59 rfl (by decide) (.slice AB 3 cB) 3 ([e1, e2, e3].flatMap Evt.c) rfl RB.out ⟨glB, 0, none⟩ 1 1 fB.c rfl rfl ?pkB (evt_one _) ?plB ?pmB ?poB ?_; (case pkB => exact fun j u hu => by rw [add_plain, blk_cell BB.out j, List.getElem?_toArray]; exact hu); (case plB => unfold maxLen; omega); (case pmB => omega); (case poB => exact KB.out.size); intro uB wB5 ho hm _ _; rw [flat4] at ho; have hb : Below wA6.heap.size wA6 wB5 := KB.out.trans (hm.below (fun q_ hq => own_base RB.out q_ hq.symm) KB.out.size); obtain ⟨A2B, c2B, rfl⟩ := own_slice ho; have F2B := Aside0.mk (show EvOk wB5 fB from evok_mod FB.out hm RB.out); clear KB RB; have RB := Aside0.mk ho; have KB := Aside0.mk hb; clear ho hm hb) | (go_at_call 27; refine (is_calls true A2B c2B [e1, e2, e3, fB] _ (opsK keyA hB 4) true (evs_of RB.out rfl (by decide) (mem4 (E1.out.below KB.out) (E2.out.below KB.out) (E3.out.below KB.out) F2B.out)) ?q1B (Nat.le_trans (opsK_le _ _ _) (by decide)) spB ordB (HT.out.below KB.out)).mono ?_; (case q1B => rw [show [e1, e2, e3, fB].map Evt.sp = hB from by (show [e1.sp, e2.sp, e3.sp, fB.sp] = _; rw [S1.out, S2.out, S3.out, SB.out]; rfl)]; rfl); rintro e_c wB6 ⟨rfl, hb⟩; rw [show (true == true) = true from rfl]; have hbx : Below wA6.heap.size wA6 wB6 := below_step KB.out hb; clear hb; have HT_n := Aside0.mk (HT.out.below hbx); have HB_n := Aside0.mk (below_step HB.out hbx); have E1_n := Aside0.mk (E1.out.below hbx); have E2_n := Aside0.mk (E2.out.below hbx); have E3_n := Aside0.mk (E3.out.below hbx); have KS_n := Aside0.mk ((hbx.block _ (blk_lt KS.out)).trans KS.out); clear HT; have HT := HT_n; clear HT_n; clear HB; have HB := HB_n; clear HB_n; clear E1; have E1 := E1_n; clear E1_n; clear E2; have E2 := E2_n; clear E2_n; clear E3; have E3 := E3_n; clear E3_n; clear KS; have KS := KS_n; clear KS_n; clear hbx))
  go_wp2_with (first | (refine gate_ (.call { callee := .builtin .append, args := #[.tmp 28, .tmp 29], argTypes := #[62, 62] }) rfl ?_; refine gate_guard (by kernel_rfl) ?_; refine ev_append (W := wB6.alloc (.cells #[] 59 (0, 0))) (.tmp 28) (.tmp 29) 62 59 rfl rfl wB6.heap.size _ 20 208 Tryd.underlying62 info59 rfl (by decide) _ 0 [] rfl (own_empty (Nat.le_refl _) (blk_new wB6 _)) ⟨gs, 0, none⟩ 3 3 ([e1, e2, e3].flatMap Evt.c) rfl (flat_length Evt.c 20 evt_len _) ?nkC (flat_one evt_one _) ?nlC ?nmC ?noC ?_; (case nkC => exact fun j u hu => by rw [add_plain, blk_cell (blk_alloc KS.out _) j, List.getElem?_toArray]; exact hu); (case nlC => unfold maxLen; omega); (case nmC => omega); (case noC => simp); intro vC wC1 ho hm _ _; rw [Nat.zero_add, List.nil_append] at ho; obtain ⟨AC, cC, rfl⟩ := own_slice ho; have RC := Aside0.mk ho; have KC := Aside0.mk (hm.after (below_alloc (Below.refl wB6.heap.size wB6) (.cells #[] 59 (0, 0))) (by simp) (fun q_ hq => Nat.le_of_eq (Option.some.inj (show some wB6.heap.size = some q_ from hq.symm)))); clear ho hm) | (go_at_call 28; refine (told_made ky _).mono ?_; rintro e_c wC2 ⟨gtC, rfl, hv, hb⟩; have RC_n := Aside0.mk (pw_own_below RC.out hb); have KC_n := Aside0.mk (below_step KC.out hb); clear RC; have RC := RC_n; clear RC_n; clear KC; have KC := KC_n; clear KC_n; have VC := Aside0.mk hv; clear hv hb) | (go_at_call 26; refine (back_calls 2 tAw (some ⟨gtC, 0, none⟩) 1 [⟨keyA, 0, ky, 0⟩] _).mono ?_; rintro e_c wC3 ⟨rfl, hb⟩; have RC_n := Aside0.mk (pw_own_below RC.out hb); have KC_n := Aside0.mk (below_step KC.out hb); clear RC; have RC := RC_n; clear RC_n; clear KC; have KC := KC_n; clear KC_n; obtain ⟨fC, hf⟩ : ∃ f, f = bEv 2 tAw (some ⟨gtC, 0, none⟩) 1 [⟨keyA, 0, ky, 0⟩] := ⟨_, rfl⟩; have FC := Aside0.mk (show EvOk wC3 fC by rw [hf]; exact bEv_ok (VC.out.below hb) (by decide)); have SC := Aside0.mk (show fC.sp = bSp 2 tAw [⟨keyA, 0, ky, 0⟩] by rw [hf]; rfl); rw [← hf]; clear hf hb) | (refine gate_ (.buildSlice 62 1 #[(0, .tmp 32)]) rfl ?_; refine gate_guard (by kernel_rfl) ?_; refine ev_lit (.buildSlice 62 1 #[(0, .tmp 32)]) rfl rfl 1 fC.c.toArray 59 ?hrC ?_; (case hrC => (simp only [Evt.c]; first | (go_simp; done) | (go_simp; rfl))); intro glC hg wC4 hk hb; have RC_n := Aside0.mk (pw_own_below RC.out hb); have KC_n := Aside0.mk (below_step KC.out hb); have FC_n := Aside0.mk (FC.out.below hb); clear RC; have RC := RC_n; clear RC_n; clear KC; have KC := KC_n; clear KC_n; clear FC; have FC := FC_n; clear FC_n; have BC := Aside0.mk hk; clear hg hk hb) | (refine gate_ (.call { callee := .builtin .append, args := #[.tmp 30, .tmp 33], argTypes := #[62, 62] }) rfl ?_; refine gate_guard (by kernel_rfl) ?_; refine ev_append (.tmp 30) (.tmp 33) 62 59 rfl rfl wB6.heap.size _ 20 208 Tryd.underlying62 info59 rfl (by decide) (.slice AC 3 cC) 3 ([e1, e2, e3].flatMap Evt.c) rfl RC.out ⟨glC, 0, none⟩ 1 1 fC.c rfl rfl ?pkC (evt_one _) ?plC ?pmC ?poC ?_; (case pkC => exact fun j u hu => by rw [add_plain, blk_cell BC.out j, List.getElem?_toArray]; exact hu); (case plC => unfold maxLen; omega); (case pmC => omega); (case poC => exact KC.out.size); intro uC wC5 ho hm _ _; rw [flat4] at ho; have hb : Below wB6.heap.size wB6 wC5 := KC.out.trans (hm.below (fun q_ hq => own_base RC.out q_ hq.symm) KC.out.size); obtain ⟨A2C, c2C, rfl⟩ := own_slice ho; have F2C := Aside0.mk (show EvOk wC5 fC from evok_mod FC.out hm RC.out); clear KC RC; have RC := Aside0.mk ho; have KC := Aside0.mk hb; clear ho hm hb) | (go_at_call 27; refine (is_calls false A2C c2C [e1, e2, e3, fC] _ (opsK keyA hC 4) false (evs_of RC.out rfl (by decide) (mem4 (E1.out.below KC.out) (E2.out.below KC.out) (E3.out.below KC.out) F2C.out)) ?q1C (Nat.le_trans (opsK_le _ _ _) (by decide)) spC ordC (HT.out.below KC.out)).mono ?_; (case q1C => rw [show [e1, e2, e3, fC].map Evt.sp = hC from by (show [e1.sp, e2.sp, e3.sp, fC.sp] = _; rw [S1.out, S2.out, S3.out, SC.out]; rfl)]; rfl); rintro e_c wC6 ⟨rfl, hb⟩; rw [show (false == false) = true from rfl]; have hbx : Below wB6.heap.size wB6 wC6 := below_step KC.out hb; clear hb; have HT_n := Aside0.mk (HT.out.below hbx); have HB_n := Aside0.mk (below_step HB.out hbx); have E1_n := Aside0.mk (E1.out.below hbx); have E2_n := Aside0.mk (E2.out.below hbx); have E3_n := Aside0.mk (E3.out.below hbx); have KS_n := Aside0.mk ((hbx.block _ (blk_lt KS.out)).trans KS.out); clear HT; have HT := HT_n; clear HT_n; clear HB; have HB := HB_n; clear HB_n; clear E1; have E1 := E1_n; clear E1_n; clear E2; have E2 := E2_n; clear E2_n; clear E3; have E3 := E3_n; clear E3_n; clear KS; have KS := KS_n; clear KS_n; clear hbx) | (go_at_call 25; refine (call_calls 1 9 keyA eE _ (by decide)).mono ?_; rintro e_c wD1 ⟨gD1, rfl, hev, hb⟩; have HT_n := Aside0.mk (HT.out.below hb); have HB_n := Aside0.mk (below_step HB.out hb); have E1_n := Aside0.mk (E1.out.below hb); have E2_n := Aside0.mk (E2.out.below hb); have E3_n := Aside0.mk (E3.out.below hb); have KS_n := Aside0.mk ((hb.block _ (blk_lt KS.out)).trans KS.out); clear HT; have HT := HT_n; clear HT_n; clear HB; have HB := HB_n; clear HB_n; clear E1; have E1 := E1_n; clear E1_n; clear E2; have E2 := E2_n; clear E2_n; clear E3; have E3 := E3_n; clear E3_n; clear KS; have KS := KS_n; clear KS_n; obtain ⟨d1, hf⟩ : ∃ f, f = cEv 1 9 keyA eE gD1 := ⟨_, rfl⟩; rw [← hf] at hev; have FD1 := Aside0.mk hev; have SD1 := Aside0.mk (show d1.sp = cSp 1 9 keyA eE by rw [hf]; rfl); rw [← hf]; clear hf hev hb) | (go_at_call 26; refine (back_calls 1 (sAw 6) none 0 [] _).mono ?_; rintro e_c wD2 ⟨rfl, hb⟩; obtain ⟨d2, hf⟩ : ∃ f, f = bEv 1 (sAw 6) none 0 [] := ⟨_, rfl⟩; have FD2 := Aside0.mk (show EvOk wD2 d2 by rw [hf]; exact bEv_ok (arg_nil _ _ _ _) (by decide)); have SD2 := Aside0.mk (show d2.sp = bSp 1 (sAw 6) [] by rw [hf]; rfl); rw [← hf]; have HT_n := Aside0.mk (HT.out.below hb); have HB_n := Aside0.mk (below_step HB.out hb); have E1_n := Aside0.mk (E1.out.below hb); have E2_n := Aside0.mk (E2.out.below hb); have E3_n := Aside0.mk (E3.out.below hb); have KS_n := Aside0.mk ((hb.block _ (blk_lt KS.out)).trans KS.out); clear HT; have HT := HT_n; clear HT_n; clear HB; have HB := HB_n; clear HB_n; clear E1; have E1 := E1_n; clear E1_n; clear E2; have E2 := E2_n; clear E2_n; clear E3; have E3 := E3_n; clear E3_n; clear KS; have KS := KS_n; clear KS_n; have FD1_n := Aside0.mk (FD1.out.below hb); clear FD1; have FD1 := FD1_n; clear FD1_n; clear hf hb) | (refine gate_ (.buildSlice 62 2 #[(0, .tmp 38), (1, .tmp 40)]) rfl ?_; refine gate_guard (by kernel_rfl) ?_; refine ev_lit (.buildSlice 62 2 #[(0, .tmp 38), (1, .tmp 40)]) rfl rfl 2 ([d1, d2].flatMap Evt.c).toArray 59 ?hrD ?_; (case hrD => (simp only [Evt.c, List.flatMap_cons, List.flatMap_nil]; first | (go_simp; done) | (go_simp; rfl))); intro gd hg wD3 hk hb; have HT_n := Aside0.mk (HT.out.below hb); have HB_n := Aside0.mk (below_step HB.out hb); have E1_n := Aside0.mk (E1.out.below hb); have E2_n := Aside0.mk (E2.out.below hb); have E3_n := Aside0.mk (E3.out.below hb); have KS_n := Aside0.mk ((hb.block _ (blk_lt KS.out)).trans KS.out); clear HT; have HT := HT_n; clear HT_n; clear HB; have HB := HB_n; clear HB_n; clear E1; have E1 := E1_n; clear E1_n; clear E2; have E2 := E2_n; clear E2_n; clear E3; have E3 := E3_n; clear E3_n; clear KS; have KS := KS_n; clear KS_n; have FD1_n := Aside0.mk (FD1.out.below hb); clear FD1; have FD1 := FD1_n; clear FD1_n; have FD2_n := Aside0.mk (FD2.out.below hb); clear FD2; have FD2 := FD2_n; clear FD2_n; have BD := Aside0.mk hk; clear hg hk hb) | (go_at_call 27; refine (is_calls false (some ⟨gd, 0, none⟩) 2 [d1, d2] _ (opsK keyA hD 2) false (evs_blk BD.out rfl (Nat.le_of_ble_eq_true rfl) (mem2 FD1.out FD2.out)) ?q1D (Nat.le_trans (opsK_le _ _ _) (by decide)) spD ordD HT.out).mono ?_; (case q1D => rw [show [d1, d2].map Evt.sp = hD from by (show [d1.sp, d2.sp] = _; rw [SD1.out, SD2.out]; rfl)]; rfl); rintro e_c wD4 ⟨rfl, hb⟩; rw [show (false == false) = true from rfl]; have HT_n := Aside0.mk (HT.out.below hb); have HB_n := Aside0.mk (below_step HB.out hb); have E1_n := Aside0.mk (E1.out.below hb); have E2_n := Aside0.mk (E2.out.below hb); have E3_n := Aside0.mk (E3.out.below hb); have KS_n := Aside0.mk ((hb.block _ (blk_lt KS.out)).trans KS.out); clear HT; have HT := HT_n; clear HT_n; clear HB; have HB := HB_n; clear HB_n; clear E1; have E1 := E1_n; clear E1_n; clear E2; have E2 := E2_n; clear E2_n; clear E3; have E3 := E3_n; clear E3_n; clear KS; have KS := KS_n; clear KS_n; clear hb))
  go_ret
  exact ⟨rfl, HB.out⟩
end Go.Proofs.YtepklobkppdliaaDoor.Hs
