/- The model: Within, Forget. The model: light. The model: any request on another key. The model: asks that came in. The model: ModelStays. The second form: where what comes in is small. ModelStays answers true, where what comes in is small (a tied card). -/
import Derived.Test.YtepklobkppdliaaDoorMd17
import Derived.Deep.LoopGhost
import Derived.Test.YtepklobkppdliaaDoorMdQ
import Derived.Test.YtepklobkppdliaaDoorOpen
import Derived.Test.YtepklobkppdliaaDoorRows
import Derived.Deep.Slices
import Derived.Handed
import Derived.LaidMore
import Derived.JoinedCond
import Derived.LaidLaws
import Derived.Test.YtepklobkppdliaaDoorTie
import Derived.Test.YtepklobkppdliaaDoorCards
import Derived.Test.YtepklobkppdliaaDoorLaid
import Derived.WalkKit
import Derived.ProofKit
import Derived.OpenShut
import Derived.ShutString
import Derived.ChangeOld
import Derived.Below
import Derived.SizedLaws
import Derived.Stop.Joined
import Derived.SevenTiedAt
namespace Go.Proofs.YtepklobkppdliaaDoor.Md
open Go.RowKit Go.Proofs.YtepklobkppdliaaDoorW.PrintWords Go.Proofs.YtepklobkppdliaaDoorW.PrintLast Go.Proofs.YtepklobkppdliaaDoorW.PrintMore Go.Proofs.YtepklobkppdliaaDoor.Lib Go.Proofs.YtepklobkppdliaaDoor.Open
set_option maxHeartbeats 4000000 in
set_option maxRecDepth 100000 in
theorem within_exp (n : Int) (w : World) : Calls Tryd.prog 21 #[.int .i64 n, .int .i64 1, .int .i64 2592000] w fun e w' => ∃ x : Int, e = .returned (.int .i64 x) ∧ 1 ≤ x ∧ x ≤ 2592000 ∧ w' = w := by
  have hr : -2592000 < Int.tmod n 2592000 ∧ Int.tmod n 2592000 < 2592000 := by
    have := Int.tmod_lt_of_pos n (show (0 : Int) < 2592000 by decide)
    have h2 := Int.tmod_lt_of_pos (-n) (show (0 : Int) < 2592000 by decide)
    rw [Int.neg_tmod] at h2
    omega
  by_cases h : Int.tmod n 2592000 < 0
  · skip
    have r1 : decide (Int.tmod n 2592000 < 0) = true := decide_eq_true (by omega)
    go_enter Tryd.func21, Tryd.ntmps21
    go_wp2
    go_ret
    refine ⟨_, rfl, ?_, ?_, rfl⟩ <;> omega
  · skip
    have r1 : decide (Int.tmod n 2592000 < 0) = false := decide_eq_false (by omega)
    go_enter Tryd.func21, Tryd.ntmps21
    go_wp2
    go_ret
    refine ⟨_, rfl, ?_, ?_, rfl⟩ <;> omega

set_option maxHeartbeats 4000000 in
set_option maxRecDepth 100000 in
theorem within_three (n : Int) (w : World) : Calls Tryd.prog 21 #[.int .i64 n, .int .i64 0, .int .i64 2] w fun e w' => ∃ x : Int, e = .returned (.int .i64 x) ∧ 0 ≤ x ∧ x ≤ 2 ∧ w' = w := by
  have hr : -3 < Int.tmod n 3 ∧ Int.tmod n 3 < 3 := by
    have := Int.tmod_lt_of_pos n (show (0 : Int) < 3 by decide)
    have h2 := Int.tmod_lt_of_pos (-n) (show (0 : Int) < 3 by decide)
    rw [Int.neg_tmod] at h2
    omega
  by_cases h : Int.tmod n 3 < 0
  · skip
    have r1 : decide (Int.tmod n 3 < 0) = true := decide_eq_true (by omega)
    go_enter Tryd.func21, Tryd.ntmps21
    go_wp2
    go_ret
    refine ⟨_, rfl, ?_, ?_, rfl⟩ <;> omega
  · skip
    have r1 : decide (Int.tmod n 3 < 0) = false := decide_eq_false (by omega)
    go_enter Tryd.func21, Tryd.ntmps21
    go_wp2
    go_ret
    refine ⟨_, rfl, ?_, ?_, rfl⟩ <;> omega

section
variable {ops : Array Oper} {rest : List Oper} {o : Oper} {a : Act} {Q : Exit → Act → World → Prop} {W : World} {b n : Nat} {f : ByteArray → Option Ent}
theorem ev_maplen (x : Operand) (ho : o.op = .call { callee := .builtin .len, args := #[x], argTypes := #[80] }) (hg : o.guard = none) (hx : a.eval x = .map (some b)) (hM : Mp W b n f)
    (h : ∀ m : Nat, wpList Tryd.prog ops Q rest (a.put o.dst (.int .i64 (m : Int))) W) : wpList Tryd.prog ops Q (o :: rest) a W := by
  obtain ⟨D, hD, _⟩ := hM
  exact wpList_len_own W hg x 80 ho 9 38 Tryd.underlying80 entR b n D hx hD (h _)
end
set_option maxHeartbeats 4000000 in
set_option maxRecDepth 100000 in
theorem forget_calls (g b n : Nat) (f : ByteArray → Option Ent) (k : ByteArray) (w : World) (h : Md w g b n f) (hk : k.size ≤ maxLen) :
    Calls Tryd.prog 23 #[.pointer (some ⟨g, 0, none⟩), .string k] w fun e w' => ∃ c, e = .returned (.bool c) ∧ Md w' g b n (upd f k none) ∧ Mod (fun q => q = b) w w' := by
  have c0 : w.cell? ⟨g, 0, none⟩ = some (.map (some b)) := blk_cell h.blk 0
  have HM := Aside0.mk h
  have HK := Aside0.mk hk
  clear h hk
  go_enter Tryd.func23, Tryd.ntmps23
  go_wp2_with (first | (refine gate_ (.call { callee := .builtin .len, args := #[.tmp 9], argTypes := #[80] }) rfl ?_; refine ev_maplen (.tmp 9) rfl rfl rfl HM.out.mp ?_; intro m1) | (refine gate_ (.call { callee := .builtin .len, args := #[.tmp 19], argTypes := #[80] }) rfl ?_; refine ev_maplen (.tmp 19) rfl rfl rfl HM2.out.mp ?_; intro m2) | (refine gate_ (.call { callee := .builtin .delete, args := #[.tmp 14, .tmp 15], argTypes := #[80, 9] }) rfl ?_; refine ev_delete (.tmp 14) (.tmp 15) rfl rfl rfl k rfl HM.out.mp HK.out ?_; intro w_3 hp hm; have HM2 := Aside0.mk (show Md w_3 g b n (upd f k none) from ⟨hm.blk HM.out.blk (fun e => HM.out.ne e.symm), hp, upd_vs HM.out.vs k none (fun e he => by cases he)⟩); have HMM := Aside0.mk hm; have c1 : w_3.cell? ⟨g, 0, none⟩ = some (.map (some b)) := blk_cell HM2.out.blk 0; clear hp hm))
  go_ret
  exact ⟨_, rfl, HM2.out, HMM.out⟩
end Go.Proofs.YtepklobkppdliaaDoor.Md
namespace Go.Proofs.YtepklobkppdliaaDoor.Md
open Go.RowKit Go.Proofs.YtepklobkppdliaaDoorW.PrintWords Go.Proofs.YtepklobkppdliaaDoorW.PrintLast Go.Proofs.YtepklobkppdliaaDoorW.PrintMore Go.Proofs.YtepklobkppdliaaDoor.Lib Go.Proofs.YtepklobkppdliaaDoor.Open
/-- An ask of the law. -/
structure Ask where
  lost : Bool
  key : ByteArray
  r : Rq
  ks : List ByteArray
  kA : Option Addr
  kc : Nat
  now : Int
  ver : Int
def Ask.kv (a : Ask) : Value := .slice a.kA a.ks.length a.kc
def Ask.c (a : Ask) : Array Value := #[.bool a.lost, .string a.key, .int .i64 a.r.verb, .slice a.kA a.ks.length a.kc, .int .i64 a.r.fl, .int .i64 a.r.exp, .int .i64 a.r.bytes, .int .i64 a.r.cas, .int .u64 a.r.delta, .bool a.r.quiet, .string a.r.data, .int .i64 a.now, .int .i64 a.ver]
def psum (l : List ByteArray) : Nat := (l.map (fun k => k.size + 1)).sum
theorem psum_step {l : List ByteArray} {i : Nat} {k : ByteArray} (h : l[i]? = some k) : psum (l.take (i + 1)) = psum (l.take i) + (k.size + 1) := by
  unfold psum
  rw [List.take_add_one, h, Option.toList_some, List.map_append, List.sum_append]
  simp
theorem psum_le (l : List ByteArray) (i : Nat) : psum (l.take i) ≤ psum l := by
  unfold psum
  have h : l.map (fun k => k.size + 1) = (l.take i).map (fun k => k.size + 1) ++ (l.drop i).map (fun k => k.size + 1) := by rw [← List.map_append, List.take_append_drop]
  rw [h, List.sum_append]
  omega
theorem len_le_psum (l : List ByteArray) : l.length ≤ psum l := by
  induction l with
  | nil => exact Nat.le_refl _
  | cons a l ih =>
    unfold psum at ih ⊢
    simp only [List.map_cons, List.sum_cons, List.length_cons]
    omega
def lightSum (a : Ask) : Nat := a.r.data.size + a.key.size + psum a.ks
set_option maxHeartbeats 8000000 in
set_option maxRecDepth 100000 in
theorem light_calls (a : Ask) (w : World) (hk : Ks w a.kA a.ks) (hs : lightSum a ≤ 1099511627776) :
    Calls Tryd.prog 22 #[.agg a.c] w fun e w' => e = .returned (.bool (decide (lightSum a < 1000))) ∧ Below w.heap.size w w' := by
  obtain ⟨lost, key, r, ks, kA, kc, now, ver⟩ := a
  unfold lightSum at hs ⊢
  simp only at hk hs ⊢
  have h1 : (r.data.size : Int) ≤ 1099511627776 := by omega
  have h2 : (key.size : Int) ≤ 1099511627776 := by omega
  have hln : (ks.length : Int) ≤ 1099511627776 := by have := len_le_psum ks; omega
  have HS := Aside0.mk hs
  have HK := Aside0.mk hk
  obtain ⟨W, hW⟩ : ∃ W, W = w.alloc (.cells (Ask.c ⟨lost, key, r, ks, kA, kc, now, ver⟩) 53) := ⟨_, rfl⟩
  have HW := Aside0.mk hW
  have c1 : W.cell? ⟨w.heap.size, 1, none⟩ = some (.string key) := by rw [hW]; exact blk_cell (blk_new w _) 1
  have c10 : W.cell? ⟨w.heap.size, 10, none⟩ = some (.string r.data) := by rw [hW]; exact blk_cell (blk_new w _) 10
  have c3 : W.cell? ⟨w.heap.size, 3, none⟩ = some (.slice kA ks.length kc) := by rw [hW]; exact blk_cell (blk_new w _) 3
  have HB := Aside0.mk (show Below w.heap.size w W by rw [hW]; exact below_alloc (Below.refl _ _) _)
  clear hW hs hk
  simp only [Ask.c]
  go_enter Tryd.func22, Tryd.ntmps22
  go_wp2
  go_loopg [3, 4] ks.length (fun R s3 s4 wr => ∃ i : Nat, i + R = ks.length ∧ s3 = .int .i64 ((r.data.size + key.size + psum (ks.take i) : Nat) : Int) ∧ s4 = .int .i64 (i : Int) ∧ wr = W)
  case atStart =>
    refine ⟨0, by omega, ?_, rfl, HW.out.symm⟩
    rw [List.take_zero]
    show Value.int IntKind.i64 _ = Value.int IntKind.i64 _
    have hz : psum ([] : List ByteArray) = 0 := rfl
    rw [hz]
    congr 1
  case round =>
    obtain ⟨i, hi, rfl, rfl, rfl⟩ := hrel
    have HI := Aside0.mk hi
    obtain ⟨S, hS⟩ : ∃ S : Nat, S = r.data.size + key.size + psum (ks.take i) := ⟨_, rfl⟩
    have HSS := Aside0.mk hS
    have hle := psum_le ks i
    have h3 : (S : Int) ≤ 1099511627776 := by have := HS.out; omega
    rw [← hS]
    clear hS hle
    by_cases hlt : i < ks.length
    · obtain ⟨k, hk⟩ : ∃ k, ks[i]? = some k := ⟨_, List.getElem?_eq_getElem hlt⟩
      obtain ⟨ad, rfl, hc⟩ := HK.out.1 (fun e => by rw [e] at hlt; simp at hlt)
      have ck : wr.cell? (ad.add i) = some (.string k) := pw_cell_below HB.out (hc i k hk)
      have hst := psum_step hk
      have hle := psum_le ks (i + 1)
      have h4 : (S : Int) + (k.size : Int) + 1 ≤ 1099511627776 := by have := HS.out; have := HSS.out; omega
      have h5 : (S : Int) + (k.size : Int) ≤ 1099511627776 := by omega
      have h6 : (k.size : Int) ≤ 1099511627776 := by omega
      have r1 : decide ((i : Int) < (ks.length : Int)) = true := decide_eq_true (by omega)
      have r1' : (i : Int) < (ks.length : Int) := by omega
      have HST := Aside0.mk hst
      clear hi hlt hk hc hst hle
      go_wp2
      go_roundg (ks.length - (i + 1))
      case measure => have := HI.out; omega
      case rel =>
        refine ⟨i + 1, by have := HI.out; omega, ?_, by go_num, rfl⟩
        show Value.int IntKind.i64 _ = Value.int IntKind.i64 _
        congr 1
        have := HST.out
        have := HSS.out
        omega
    · have r1 : decide ((i : Int) < (ks.length : Int)) = false := decide_eq_false (by omega)
      have r1' : ¬ (i : Int) < (ks.length : Int) := by omega
      have HE := Aside0.mk (show i = ks.length by omega)
      clear hi hlt
      go_wp2
      go_ret
      have hd : decide ((S : Int) < 1000) = decide (r.data.size + key.size + psum ks < 1000) := by
        have h7 := HSS.out
        rw [HE.out, List.take_length] at h7
        rw [decide_eq_decide]
        omega
      exact ⟨by rw [hd]; rfl, HB.out⟩
end Go.Proofs.YtepklobkppdliaaDoor.Md
namespace Go.Proofs.YtepklobkppdliaaDoor.Md
open Go.RowKit Go.Proofs.YtepklobkppdliaaDoorW.PrintWords Go.Proofs.YtepklobkppdliaaDoorW.PrintLast Go.Proofs.YtepklobkppdliaaDoorW.PrintMore Go.Proofs.YtepklobkppdliaaDoor.Lib Go.Proofs.YtepklobkppdliaaDoor.Open
theorem Md.grow {w : World} {g b n m : Nat} {f : ByteArray → Option Ent} (h : Md w g b n f) (hn : n ≤ m) : Md w g b m f := ⟨h.blk, h.mp.mono hn, h.vs⟩
theorem upd_ne (f : ByteArray → Option Ent) (k j : ByteArray) (x : Option Ent) (h : j ≠ k) : upd f k x j = f j := by
  unfold upd
  rw [if_neg h]
theorem applyTo_ne (f : ByteArray → Option Ent) (r : Rq) (k k0 : ByteArray) (now ver : Int) (h : k0 ≠ k) : (applyTo f r k now ver).2 k0 = f k0 := by
  unfold applyTo
  show (if _ then upd f k _ else if _ then upd f k none else f) k0 = f k0
  split
  · exact upd_ne f k k0 _ h
  · split
    · exact upd_ne f k k0 _ h
    · rfl
/-- Any request but flush, whose first key is another. -/
theorem apply_any (g b n : Nat) (f : ByteArray → Option Ent) (r : Rq) (A : Option Addr) (cap : Nat) (ks : List ByteArray) (now ver : Int) (w : World) (h : Md w g b n f) (hn : n < maxLen) (hks : Ks w A ks) (hl : ks.length ≤ 1000000) (hv : r.verb ≠ 13) (ht : Pow w) (hd : r.data.size ≤ 140737488355328) (h0 : 0 ≤ r.delta) (k0 : ByteArray) (hk0 : ∀ k, ks[0]? = some k → k0 ≠ k) :
    Calls Tryd.prog 16 #[.pointer (some ⟨g, 0, none⟩), .agg (r.c (.slice A ks.length cap)), .int .i64 now, .int .i64 ver] w fun e w' => ∃ c f', e = .returned (.agg c) ∧ Md w' g b (n + 1) f' ∧ f' k0 = f k0 ∧ Mod (fun q => q = b) w w' := by
  by_cases h1 : r.verb = 1
  · exact (apply_get1 g b n f r A cap ks now ver w h hks hl h1).mono fun e w' ⟨v, he, _, hb⟩ => ⟨_, f, he, (h.below hb).grow (by omega), rfl, Mod.of_below hb _⟩
  by_cases h2 : r.verb = 2
  · exact (apply_get2 g b n f r A cap ks now ver w h hks hl h2).mono fun e w' ⟨v, he, _, hb⟩ => ⟨_, f, he, (h.below hb).grow (by omega), rfl, Mod.of_below hb _⟩
  by_cases hL : ks.length = 1
  · obtain ⟨k, rfl⟩ : ∃ k, ks = [k] := List.length_eq_one_iff.1 hL
    obtain ⟨ad, rfl, hc⟩ := hks.1 (by simp)
    have hc0 : w.cell? ad = some (.string k) := by
      have := hc 0 k rfl
      rwa [show ad.add 0 = ad by unfold Addr.add; simp] at this
    exact (apply_one g b n f r k ad cap now ver w h hn (hks.2 k (by simp)) hc0 ⟨h1, h2, hv⟩ ht hd h0).mono fun e w' ⟨he, hm, hmod⟩ => ⟨_, _, he, hm, applyTo_ne f r k k0 now ver (hk0 k rfl), hmod⟩
  · exact (apply_short g r A ks.length cap now ver w hL ⟨h1, h2, hv⟩).mono fun e w' ⟨he, hb⟩ => ⟨_, f, he, (h.below hb).grow (by omega), rfl, Mod.of_below hb _⟩
end Go.Proofs.YtepklobkppdliaaDoor.Md
namespace Go.Proofs.YtepklobkppdliaaDoor.Md
open Go.RowKit Go.Proofs.YtepklobkppdliaaDoorW.PrintWords Go.Proofs.YtepklobkppdliaaDoorW.PrintLast Go.Proofs.YtepklobkppdliaaDoorW.PrintMore Go.Proofs.YtepklobkppdliaaDoor.Lib Go.Proofs.YtepklobkppdliaaDoor.Open Go.Proofs.YtepklobkppdliaaDoor.Open
open _root_.Go.Proofs.YtepklobkppdliaaDoor.Rows (uptoBulk uptoBulkAll)
section
variable {H : Type}
theorem bulk_get : ∀ {l : List (DataW H)} {i : Nat} {d : DataW H}, l[i]? = some d → uptoBulk d ≤ uptoBulkAll l
  | [], i, d, h => by simp at h
  | a :: l, 0, d, h => by
    obtain rfl : a = d := by simpa using h
    unfold uptoBulkAll
    omega
  | a :: l, i + 1, d, h => by
    have := bulk_get (l := l) (i := i) (d := d) (by simpa using h)
    unfold uptoBulkAll
    omega
theorem bulk_two : ∀ {l : List (DataW H)} {i j : Nat} {d e : DataW H}, i < j → l[i]? = some d → l[j]? = some e → uptoBulk d + uptoBulk e ≤ uptoBulkAll l
  | [], i, j, d, e, _, h, _ => by simp at h
  | a :: l, 0, j + 1, d, e, _, h, h2 => by
    obtain rfl : a = d := by simpa using h
    have := bulk_get (l := l) (i := j) (d := e) (by simpa using h2)
    unfold uptoBulkAll
    omega
  | a :: l, i + 1, j + 1, d, e, hlt, h, h2 => by
    have := bulk_two (l := l) (i := i) (j := j) (d := d) (e := e) (by omega) (by simpa using h) (by simpa using h2)
    unfold uptoBulkAll
    omega
theorem bulk_texts (D : Nat → DataW H) (s : Nat → ByteArray) : ∀ (l : List Nat), (∀ i ∈ l, D i = .lit (.string (s i).data.toList)) → uptoBulkAll (l.map D) = psum (l.map s)
  | [], _ => rfl
  | i :: l, h => by
    rw [List.map_cons, List.map_cons, h i (by simp)]
    unfold uptoBulkAll
    rw [bulk_texts D s l (fun j hj => h j (by simp [hj]))]
    unfold uptoBulk
    rw [Array.length_toList]
    show (s i).size + 1 + psum (l.map s) = psum (s i :: l.map s)
    unfold psum
    rw [List.map_cons, List.sum_cons]
end
theorem list13 {α : Type} : ∀ {l : List α}, l.length = 13 → ∃ q0 q1 q2 q3 q4 q5 q6 q7 q8 q9 q10 q11 q12, l = [q0, q1, q2, q3, q4, q5, q6, q7, q8, q9, q10, q11, q12]
  | [q0, q1, q2, q3, q4, q5, q6, q7, q8, q9, q10, q11, q12], _ => ⟨q0, q1, q2, q3, q4, q5, q6, q7, q8, q9, q10, q11, q12, rfl⟩
def strOf' : Value → ByteArray
  | .string s => s
  | _ => ⟨#[]⟩
section
variable {H : Type} {enc : TypeId × Value → H} {W : World} {spare : Nat → Bool} {held : Bool} {fuel : Nat}
/-- Keys that came in. -/
theorem open_keys {v : Value} {y : DataW H × List MemPlace} (h : DataW.trod enc Tryd.prog W 0 spare held fuel 24 [v] = some y) : ∃ A ks cap, v = .slice A ks.length cap ∧ Ks W A ks ∧ psum ks ≤ uptoBulk y.1 := by
  rcases Deep.open_slice1 Tryd.underlying24 (by kernel_rfl) h with ⟨hcs, _⟩ | ⟨a, len, cap, m, n, Vf, D, Pl, hcs, _, hle, _, hmm, hx, hel⟩
  · obtain rfl : v = .slice none 0 0 := by simpa using hcs
    exact ⟨none, [], 0, rfl, ⟨fun h => absurd rfl h, fun k hk => by cases hk⟩, Nat.zero_le _⟩
  · obtain rfl : v = .slice (some a) len cap := by simpa using hcs
    have hlm : len ≤ m := by rw [hmm]; split <;> omega
    have hs : ∀ i, i < len → Vf i = .string (strOf' (Vf i)) ∧ D i = .lit (.string (strOf' (Vf i)).data.toList) ∧ (strOf' (Vf i)).size ≤ maxLen := fun i hi => by
      have h2 := (hel i (by omega)).2
      cases n with
      | zero => cases h2
      | succ n =>
        obtain ⟨b, hb, he, hsz⟩ := DataW.trod_string Tryd.underlying9 h2
        have hv : Vf i = .string b := by simpa using hb
        have hd : D i = .lit (.string b.data.toList) := congrArg Prod.fst he
        rw [hv]
        exact ⟨rfl, hd, hsz⟩
    refine ⟨some a, (List.range len).map (fun i => strOf' (Vf i)), cap, by simp, ⟨fun _ => ⟨a, rfl, fun i k hk => ?_⟩, fun k hk => ?_⟩, ?_⟩
    · rw [List.getElem?_map] at hk
      obtain ⟨j, hj, rfl⟩ := Option.map_eq_some_iff.1 hk
      obtain ⟨hlt, hj2⟩ := List.getElem?_eq_some_iff.1 hj
      obtain rfl : i = j := by simpa using hj2
      have hi : i < len := by simpa using hlt
      rw [← (hs i hi).1]
      exact (hel i (by omega)).1
    · obtain ⟨j, hj, rfl⟩ := List.mem_map.1 hk
      exact (hs j (by simpa using hj)).2.2
    · rw [hx]
      show _ ≤ uptoBulk (DataW.slice _ _)
      unfold uptoBulk
      rw [← bulk_texts D (fun i => strOf' (Vf i)) (List.range len) (fun i hi => (hs i (by simpa using hi)).2.1)]
      omega
set_option maxRecDepth 100000 in
/-- An ask that came in. -/
theorem open_ask {cs : List Value} {x : DataW H × List MemPlace} (h : DataW.trod enc Tryd.prog W 0 spare held fuel 53 cs = some x) : ∃ a : Ask, cs = a.c.toList ∧ Ks W a.kA a.ks ∧ 0 ≤ a.r.delta ∧ lightSum a ≤ uptoBulk x.1 := by
  cases fuel with
  | zero => cases h
  | succ fuel =>
    obtain ⟨hl, parts, hd, hp⟩ := struct_at Tryd.underlying53 h
    have hn : Tryd.prog.cellsOf 53 = 13 := by kernel_rfl
    have hl13 : cs.length = 13 := by rw [hl, hn]
    clear h hl hn
    obtain ⟨q0, q1, q2, q3, q4, q5, q6, q7, q8, q9, q10, q11, q12, rfl⟩ := list13 hl13
    clear hl13
    have c3 : Tryd.prog.cellsOf 3 = 1 := by kernel_rfl
    have c9 : Tryd.prog.cellsOf 9 = 1 := by kernel_rfl
    have c25 : Tryd.prog.cellsOf 25 = 1 := by kernel_rfl
    have c4 : Tryd.prog.cellsOf 4 = 1 := by kernel_rfl
    have c24 : Tryd.prog.cellsOf 24 = 1 := by kernel_rfl
    have c27 : Tryd.prog.cellsOf 27 = 9 := by kernel_rfl
    obtain ⟨_, _, h0⟩ := hp 0 _ rfl
    obtain ⟨y1, hq1, h1⟩ := hp 1 _ rfl
    obtain ⟨y2, hq2, h2⟩ := hp 2 _ rfl
    obtain ⟨_, _, h11⟩ := hp 3 _ rfl
    obtain ⟨_, _, h12⟩ := hp 4 _ rfl
    simp only [c3, c9, c4, c27, List.drop_zero, List.drop_succ_cons, List.take_succ_cons, List.take_zero] at h0 h1 h2 h11 h12
    obtain ⟨x0, rfl⟩ := cell_bool (v := q0) h0
    obtain ⟨x1, rfl, hx1⟩ := cell_str (v := q1) h1
    obtain ⟨x11, rfl⟩ := cell_int (v := q11) h11
    obtain ⟨x12, rfl⟩ := cell_int (v := q12) h12
    cases fuel with
    | zero => cases h2
    | succ fuel =>
      obtain ⟨_, parts2, hd2, hp2⟩ := struct_at Tryd.underlying27 h2
      obtain ⟨_, _, g0⟩ := hp2 0 _ rfl
      obtain ⟨z1, gq1, g1⟩ := hp2 1 _ rfl
      obtain ⟨_, _, g2⟩ := hp2 2 _ rfl
      obtain ⟨_, _, g3⟩ := hp2 3 _ rfl
      obtain ⟨_, _, g4⟩ := hp2 4 _ rfl
      obtain ⟨_, _, g5⟩ := hp2 5 _ rfl
      obtain ⟨_, _, g6⟩ := hp2 6 _ rfl
      obtain ⟨_, _, g7⟩ := hp2 7 _ rfl
      obtain ⟨z8, gq8, g8⟩ := hp2 8 _ rfl
      simp only [c3, c9, c4, c24, c25, List.drop_zero, List.drop_succ_cons, List.take_succ_cons, List.take_zero] at g0 g1 g2 g3 g4 g5 g6 g7 g8
      obtain ⟨v0, rfl⟩ := cell_int (v := q2) g0
      obtain ⟨A, ks, cap, rfl, hks, hpk⟩ := open_keys (v := q3) g1
      obtain ⟨v2, rfl⟩ := cell_int (v := q4) g2
      obtain ⟨v3, rfl⟩ := cell_int (v := q5) g3
      obtain ⟨v4, rfl⟩ := cell_int (v := q6) g4
      obtain ⟨v5, rfl⟩ := cell_int (v := q7) g5
      obtain ⟨v6, rfl, hv6⟩ := cell_u64 (v := q8) g6
      obtain ⟨v7, rfl⟩ := cell_bool (v := q9) g7
      obtain ⟨v8, rfl, hv8⟩ := cell_str (v := q10) g8
      refine ⟨⟨x0, x1, ⟨v0, v2, v3, v4, v5, v6, v7, v8⟩, ks, A, cap, x11, x12⟩, rfl, hks, hv6, ?_⟩
      unfold lightSum
      simp only
      have e1 := bulk_two (show 1 < 2 by decide) hq1 hq2
      have e2 := bulk_two (show 1 < 8 by decide) gq1 gq8
      rw [hx1, hd2] at e1
      rw [hv8] at e2
      rw [hd]
      have u1 : uptoBulk (DataW.lit (H := H) (.string x1.data.toList)) = x1.size + 1 := by unfold uptoBulk; rw [Array.length_toList]; rfl
      have u8 : uptoBulk (DataW.lit (H := H) (.string v8.data.toList)) = v8.size + 1 := by unfold uptoBulk; rw [Array.length_toList]; rfl
      have ua : uptoBulk (DataW.agg parts2) = uptoBulkAll parts2 + 1 := by rw [uptoBulk]
      have ub : uptoBulk (DataW.agg parts) = uptoBulkAll parts + 1 := by rw [uptoBulk]
      rw [u1, ua] at e1
      rw [u8] at e2
      rw [ub]
      omega
end
/-- Asks that came in. -/
def Asks (W : World) (A : Option Addr) (n : Nat) (as_ : List Ask) : Prop :=
  as_.length = n ∧ n ≤ 9223372036854775807 ∧ (0 < n → ∃ b o, A = some ⟨b, o, none⟩ ∧ ∀ i a, as_[i]? = some a → W.rangeAt b (o + i * 13) a.c.toList) ∧ ∀ a ∈ as_, Ks W a.kA a.ks ∧ 0 ≤ a.r.delta ∧ lightSum a ≤ 1048576
section
variable {H : Type} {enc : TypeId × Value → H} {W : World} {spare : Nat → Bool} {held : Bool} {fuel : Nat}
theorem open_asks {A : Option Addr} {len cap : Nat} {x : DataW H × List MemPlace} (h : DataW.trod enc Tryd.prog W 0 spare held fuel 50 [.slice A len cap] = some x) (hb : uptoBulk x.1 ≤ 1048576) : len ≤ cap ∧ ∃ as_, Asks W A len as_ := by
  rcases Deep.open_slice Tryd.underlying50 h with ⟨hcs, _⟩ | ⟨a, len', cap', m, n, D, Pl, hcs, _, hle, hm, hmm, hx, hel⟩
  · simp only [List.cons.injEq, and_true, Value.slice.injEq] at hcs
    obtain ⟨rfl, rfl, rfl⟩ := hcs
    exact ⟨Nat.le_refl _, [], rfl, by omega, fun h => absurd h (Nat.lt_irrefl 0), fun a ha => by cases ha⟩
  · simp only [List.cons.injEq, and_true, Value.slice.injEq] at hcs
    obtain ⟨rfl, rfl, rfl⟩ := hcs
    have c53 : Tryd.prog.cellsOf 53 = 13 := by kernel_rfl
    rw [c53] at hel
    have hlm : len ≤ m := by rw [hmm]; split <;> omega
    have hbl : ∀ i, i < len → uptoBulk (D i) ≤ 1048576 := fun i hi => by
      have h1 := bulk_get (l := (List.range len).map D) (i := i) (d := D i) (by rw [List.getElem?_map, List.getElem?_range hi]; rfl)
      rw [hx] at hb
      have h2 : uptoBulk (DataW.slice ((List.range len).map D) ((List.range (m - len)).map fun j => D (len + j))) ≤ 1048576 := hb
      unfold uptoBulk at h2
      omega
    have hch : ∀ i : Fin len, ∃ q : Ask, (∀ j v, q.c[j]? = some v → W.cell? (a.add (i.val * 13 + j)) = some v) ∧ Ks W q.kA q.ks ∧ 0 ≤ q.r.delta ∧ lightSum q ≤ 1048576 := fun i => by
      obtain ⟨cs', h1, h2⟩ := hel i.val (by have := i.isLt; omega)
      obtain ⟨q, rfl, hk, hd, hs⟩ := open_ask h2
      refine ⟨q, fun j v hv => ?_, hk, hd, Nat.le_trans hs (hbl i.val i.isLt)⟩
      have hj : j < 13 := (Array.getElem?_eq_some_iff.1 hv).1
      have := (World.cells?_some h1).2.2 j hj
      rw [Deep.add_add] at this
      rw [this, Array.getElem?_toList]
      exact hv
    obtain ⟨f, hf⟩ := Classical.axiomOfChoice hch
    refine ⟨hle, List.ofFn f, by simp, by unfold maxLen at hm; omega, fun hn => ?_, fun q hq => ?_⟩
    · have hsp := Open.no_spot ((hf ⟨0, hn⟩).1 0 _ rfl)
      have ha : a.add (0 * 13 + 0) = a := by unfold Addr.add; simp
      rw [ha] at hsp
      obtain ⟨b, o, s⟩ := a
      have hs0 : s = none := hsp
      subst hs0
      refine ⟨b, o, rfl, fun i q hq => ?_⟩
      rw [List.getElem?_ofFn] at hq
      split at hq
      · obtain rfl := Option.some.inj hq
        intro j v hv
        have h9 := (hf _).1 j v (by simpa using hv)
        rw [Addr.add_mid] at h9
        rw [Nat.add_assoc]
        exact h9
      · cases hq
    · obtain ⟨i, rfl⟩ := List.mem_ofFn.1 hq
      exact (hf i).2
end
end Go.Proofs.YtepklobkppdliaaDoor.Md
namespace Go.Proofs.YtepklobkppdliaaDoor.Md
open Go.RowKit Go.Proofs.YtepklobkppdliaaDoorW.PrintWords Go.Proofs.YtepklobkppdliaaDoorW.PrintLast Go.Proofs.YtepklobkppdliaaDoorW.PrintMore Go.Proofs.YtepklobkppdliaaDoor.Lib Go.Proofs.YtepklobkppdliaaDoor.Open
set_option maxHeartbeats 16000000 in
set_option maxRecDepth 100000 in
theorem stays_long (key d : ByteArray) (v1 v2 v3 v4 : Value) (w : World) (ht : Pow w) (z1 : (key.size : Int) ≤ 140737488355328) (z2 : (d.size : Int) ≤ 140737488355328) (hk : 0 < key.size) (hs : (500 : Int) < key.size + d.size) :
    Calls Tryd.prog 8 #[.string key, .string d, v1, v2, v3, v4] w fun e w' => e = .returned (.bool true) ∧ Below w.heap.size w w' := by
  have q1 : key.toList.isEmpty = false := by
    cases hq : key.toList.isEmpty
    · rfl
    · exact absurd ((tl_nil key).1 (List.isEmpty_iff.1 hq)) (by omega)
  have q2 : ¬ key.toList = ([] : List UInt8) := fun h => by have := (tl_nil key).1 h; omega
  have r0 : decide ((500 : Int) < (key.size : Int) + (d.size : Int)) = true := decide_eq_true (by omega)
  clear hk
  have HT := Aside0.mk ht
  have HB := Aside0.mk (Below.refl w.heap.size w)
  have H0 := Aside0.mk ht.lt
  clear ht
  go_enter Tryd.func8, Tryd.ntmps8
  go_wp2_with fail
  go_at_call 14
  refine (new_calls _).mono ?_
  rintro e_0 w_0 ⟨g, b, rfl, hmd, hg, hbg, hb⟩
  have HG := Aside0.mk (And.intro hbg H0.out)
  have HM := Aside0.mk hmd
  clear hmd hg hbg H0
  have HT_n := Aside0.mk (HT.out.below hb)
  have HB_n := Aside0.mk (HB.out.trans (hb.mono HB.out.size))
  clear HT; have HT := HT_n; clear HT_n
  clear HB; have HB := HB_n; clear HB_n
  clear hb
  go_wp2_with fail
  go_at_call 3
  refine (runs_calls _ HT.out).mono ?_
  rintro e_1 w_1 ⟨rfl, hb⟩
  have HB_n := Aside0.mk (HB.out.trans (hb.mono HB.out.size))
  clear HB HT HM hb
  go_wp2
  go_ret
  exact ⟨rfl, HB_n.out⟩
set_option maxHeartbeats 16000000 in
set_option maxRecDepth 100000 in
theorem stays_empty (d : ByteArray) (v1 v2 v3 v4 : Value) (w : World) (ht : Pow w) :
    Calls Tryd.prog 8 #[.string ⟨#[]⟩, .string d, v1, v2, v3, v4] w fun e w' => e = .returned (.bool true) ∧ Below w.heap.size w w' := by
  have HT := Aside0.mk ht
  have HB := Aside0.mk (Below.refl w.heap.size w)
  have H0 := Aside0.mk ht.lt
  clear ht
  go_enter Tryd.func8, Tryd.ntmps8
  go_wp2_with fail
  go_at_call 14
  refine (new_calls _).mono ?_
  rintro e_0 w_0 ⟨g, b, rfl, hmd, hg, hbg, hb⟩
  have HG := Aside0.mk (And.intro hbg H0.out)
  have HM := Aside0.mk hmd
  clear hmd hg hbg H0
  have HT_n := Aside0.mk (HT.out.below hb)
  have HB_n := Aside0.mk (HB.out.trans (hb.mono HB.out.size))
  clear HT; have HT := HT_n; clear HT_n
  clear HB; have HB := HB_n; clear HB_n
  clear hb
  go_wp2_with fail
  go_at_call 3
  refine (runs_calls _ HT.out).mono ?_
  rintro e_1 w_1 ⟨rfl, hb⟩
  have HB_n := Aside0.mk (HB.out.trans (hb.mono HB.out.size))
  clear HB HT HM hb
  go_wp2
  go_ret
  exact ⟨rfl, HB_n.out⟩

theorem founds_live {f : ByteArray → Option Ent} {k : ByteArray} {e : Ent} {now : Int} (h : f k = some e) (hl : live e.dl now = true) : founds f [k] now = [e] := by
  unfold founds
  rw [List.filterMap_cons]
  unfold liveOf
  rw [h]
  simp only [hl, if_true]
  rfl
theorem founds_dead {f : ByteArray → Option Ent} {k : ByteArray} {e : Ent} {now : Int} (h : f k = some e) (hl : live e.dl now = false) : founds f [k] now = [] := by
  unfold founds
  rw [List.filterMap_cons]
  unfold liveOf
  rw [h]
  simp only [hl, Bool.false_eq_true, if_false]
  rfl
theorem founds_gone {f : ByteArray → Option Ent} {k : ByteArray} {now : Int} (h : f k = none) : founds f [k] now = [] := by
  unfold founds
  rw [List.filterMap_cons]
  unfold liveOf
  rw [h]
  rfl
theorem dead_at {L : Int} (h1 : 1 ≤ L) (h2 : L ≤ 2592000) : dead L 1000 = L + 1000 := by
  unfold dead
  rw [if_neg (by omega), if_neg (by omega), if_pos h2]
  rfl
theorem live_in {L now : Int} (h1 : 1 ≤ L) (h2 : L ≤ 2592000) (h : now < L + 1000) : live (dead L 1000) now = true := by
  rw [dead_at h1 h2]
  unfold live
  exact decide_eq_true (.inr ⟨by omega, h⟩)
theorem live_out {L now : Int} (h1 : 1 ≤ L) (h2 : L ≤ 2592000) (h : L + 1000 ≤ now) : live (dead L 1000) now = false := by
  rw [dead_at h1 h2]
  unfold live
  exact decide_eq_false (by omega)
theorem to_del {f : ByteArray → Option Ent} {k : ByteArray} {e : Ent} {now ver : Int} (h : f k = some e) (hl : live e.dl now = true) : applyTo f ⟨9, 0, 0, 0, 0, 0, false, ⟨#[]⟩⟩ k now ver = (say 6, upd f k none) := by
  have h2 : liveOf f k now = some e := by
    unfold liveOf
    rw [h]
    simp only [hl, if_true]
  unfold applyTo
  rw [h2, Option.getD_some, Option.isSome_some]
  rfl
theorem fldV (A : Option Addr) (n c : Nat) : ∀ W : World, (Instr.field 32 (.agg #[.int .i64 1, .slice A n c, .bool true, .int .u64 0, .string ⟨#[]⟩, .int .i64 0, .int .i64 0, .int .i64 0, .int .i64 0]) 1).run Tryd.prog W = .ok (.slice A n c) W := fun _ => by kernel_rfl
theorem eq35 (k d : ByteArray) (x y : Int) : ∀ W : World, (Op.equalIn 10000 35 (.agg #[.string k, .int .i64 x, .string d, .int .i64 y]) (.agg #[.string k, .int .i64 x, .string d, .int .i64 y])).run Tryd.prog W = .ok true W := fun W => by
  have h := PModelNext.eqA35 9998 W k k x x d d y y
  simp only [beq_self_eq_true, Bool.and_self] at h
  exact h
theorem blks2' (w : World) (o1 o2 : Obj) : Below w.heap.size w ((w.alloc o1).alloc o2) ∧ ((w.alloc o1).alloc o2).heap[w.heap.size]? = some o1 ∧ ((w.alloc o1).alloc o2).heap[w.heap.size + 1]? = some o2 := by
  have s1 : (w.alloc o1).heap.size = w.heap.size + 1 := by simp
  refine ⟨below_alloc (below_alloc (Below.refl _ _) _) _, ?_, ?_⟩
  · rw [heap_at, heap_at, s1, if_neg (by omega), if_pos rfl]
  · rw [heap_at, s1, if_pos rfl]
theorem to_first (k d : ByteArray) (fl L : Int) : applyTo f0 ⟨3, fl, L, 0, 0, 0, false, d⟩ k 1000 7 = (say 2, upd f0 k (some ⟨k, fl, dead L 1000, d, 7⟩)) := rfl
theorem upd_here (f : ByteArray → Option Ent) (k : ByteArray) (x : Option Ent) : upd f k x k = x := by
  unfold upd
  rw [if_pos rfl]

set_option maxHeartbeats 16000000 in
set_option maxRecDepth 100000 in
theorem stays_calls (key d : ByteArray) (fl ex how : Int) (A : Option Addr) (n c : Nat) (as_ : List Ask) (w : World) (ht : Pow w) (hfl : 0 ≤ fl ∧ fl < 4294967296) (hk : 0 < key.size) (hs : (key.size : Int) + d.size ≤ 500) (ha : Asks w A n as_) :
    Calls Tryd.prog 8 #[.string key, .string d, .int .u32 fl, .int .i64 ex, .slice A n c, .int .i64 how] w fun e w' => e = .returned (.bool true) ∧ Below w.heap.size w w' := by
  have HA := Aside0.mk ha
  have HL1 := Aside0.mk ha.2.1
  have HK := Aside0.mk hk
  have hw : wrap64 fl = fl := by unfold wrap64; omega
  clear ha hk hfl
  have q1 : key.toList.isEmpty = false := by
    cases hq : key.toList.isEmpty
    · rfl
    · exact absurd ((tl_nil key).1 (List.isEmpty_iff.1 hq)) (by have := HK.out; omega)
  have q2 : ¬ key.toList = ([] : List UInt8) := fun h => by have := (tl_nil key).1 h; have := HK.out; omega
  have r0 : decide ((500 : Int) < (key.size : Int) + (d.size : Int)) = false := decide_eq_false (by omega)
  have r0' : ¬ (500 : Int) < (key.size : Int) + (d.size : Int) := by omega
  have HZ := Aside0.mk (show key.size ≤ 500 ∧ d.size ≤ 500 by omega)
  have z1 : (key.size : Int) ≤ 500 := by omega
  have z2 : (d.size : Int) ≤ 500 := by omega
  clear hs
  have HT := Aside0.mk ht
  have HB := Aside0.mk (Below.refl w.heap.size w)
  have H0 := Aside0.mk ht.lt
  clear ht
  go_enter Tryd.func8, Tryd.ntmps8
  go_wp2_with fail
  go_at_call 14
  refine (new_calls _).mono ?_
  rintro e_0 w_0 ⟨g, b, rfl, hmd, hg, hbg, hb⟩
  have HG := Aside0.mk (And.intro hbg H0.out)
  have HG0 := Aside0.mk hg
  have HM := Aside0.mk hmd
  clear hmd hg hbg H0
  have HT_n := Aside0.mk (HT.out.below hb)
  have HB_n := Aside0.mk (HB.out.trans (hb.mono HB.out.size))
  clear HT; have HT := HT_n; clear HT_n
  clear HB; have HB := HB_n; clear HB_n
  clear hb
  go_wp2_with fail
  go_at_call 21
  refine (within_exp ex _).mono ?_
  rintro e_1 w_1 ⟨L, rfl, hL1, hL2, rfl⟩
  have HLL := Aside0.mk (And.intro hL1 hL2)
  clear hL1 hL2
  go_wp2_with fail
  refine calls_at (fun W => Below w_1.heap.size w_1 W ∧ W.heap[w_1.heap.size]? = some (.cells #[.string key] 9 (0, 0))) (⟨below_alloc (Below.refl _ _) _, blk_new w_1 (.cells #[.string key] 9)⟩) (fun W hW => ?_)
  rcases hW with ⟨hb, h2⟩
  have CK := Aside0.mk (blk_cell h2 0)
  clear h2
  obtain ⟨gk, hgk⟩ : ∃ gk, gk = w_1.heap.size := ⟨_, rfl⟩
  rw [← hgk] at CK ⊢
  clear hgk
  have HT_n := Aside0.mk (HT.out.below hb)
  have HB_n := Aside0.mk (HB.out.trans (hb.mono HB.out.size))
  have HM_n := Aside0.mk (HM.out.below hb)
  clear HT; have HT := HT_n; clear HT_n
  clear HB; have HB := HB_n; clear HB_n
  clear HM; have HM := HM_n; clear HM_n
  clear hb
  go_at_call 16
  refine (apply_one g b _ (f0) (⟨3, fl, L, 0, 0, 0, false, d⟩) key ⟨gk, 0, none⟩ 1 _ _ _ HM.out (by decide) (show key.size ≤ maxLen by unfold maxLen; have := HZ.out; omega) CK.out (show (3 : Int) ≠ 1 ∧ (3 : Int) ≠ 2 ∧ (3 : Int) ≠ 13 by decide) HT.out (show d.size ≤ 140737488355328 by have := HZ.out; omega) (show (0 : Int) ≤ 0 by decide)).mono ?_
  rintro e_2 w_3 ⟨rfl, hmd, hm⟩
  rw [to_first key d fl L] at hmd ⊢
  simp only [An.c, ans, say]
  clear CK
  have HT_n := Aside0.mk (HT.out.mod hm (fun e => by have := HG.out; omega))
  have HB_n := Aside0.mk (hm.after HB.out HB.out.size (fun q hq => by rw [hq]; exact HG.out.1))
  clear HT; have HT := HT_n; clear HT_n
  clear HB; have HB := HB_n; clear HB_n
  clear HM; have HM := Aside0.mk hmd; clear hmd hm
  obtain ⟨N, hN⟩ : ∃ N, N = min n 30 := ⟨_, rfl⟩
  have HN := Aside0.mk hN
  clear hN
  go_wp2_with fail
  go_loopg [15] N (fun R s15 wr => ∃ (i : Nat) (f : ByteArray → Option Ent), i + R = N ∧ s15 = .int .i64 (i : Int) ∧ f key = some ⟨key, fl, dead L 1000, d, 7⟩ ∧ Md wr g b (i + 1) f ∧ Pow wr ∧ Below w.heap.size w wr)
  case atStart => exact ⟨0, _, by omega, rfl, upd_here _ _ _, HM.out, HT.out, HB.out⟩
  case round =>
    clear HM HT HB
    obtain ⟨i, f, hi, rfl, hfk, hM, hT, hB⟩ := hrel
    have HM := Aside0.mk hM
    have HT := Aside0.mk hT
    have HB := Aside0.mk hB
    have HFK := Aside0.mk hfk
    have HI := Aside0.mk hi
    clear hM hT hB hfk
    by_cases hlt : i < N
    · have HL := Aside0.mk (show i < n ∧ i < 30 by have := HN.out; omega)
      have r1 : decide ((i : Int) < (n : Int)) = true := decide_eq_true (by have := HL.out; omega)
      have r2 : decide ((i : Int) < 30) = true := decide_eq_true (by have := HL.out; omega)
      have r1' : (i : Int) < (n : Int) := by have := HL.out; omega
      have r2' : (i : Int) < 30 := by have := HL.out; omega
      obtain ⟨q, hq⟩ : ∃ q, as_[i]? = some q := ⟨_, List.getElem?_eq_getElem (by have := HL.out; have := HA.out.1; omega)⟩
      obtain ⟨b1, o1, rfl, hcells⟩ := HA.out.2.2.1 (by have := HL.out; omega)
      obtain ⟨hks, hdl, hls⟩ := HA.out.2.2.2 q (List.mem_of_getElem? hq)
      have hcq := hcells i q hq
      have HQ := Aside0.mk (And.intro hks (And.intro hdl hls))
      have cq0 : wr.cell? ⟨b1, o1 + i * 13, none⟩ = some (.bool q.lost) := pw_cell_below HB.out (hcq 0 _ rfl)
      have cq1 : wr.cell? ⟨b1, o1 + i * 13 + 1, none⟩ = some (.string q.key) := pw_cell_below HB.out (hcq 1 _ rfl)
      have cq2 : wr.cell? ⟨b1, o1 + i * 13 + 2, none⟩ = some (.int .i64 q.r.verb) := pw_cell_below HB.out (hcq 2 _ rfl)
      have cq3 : wr.cell? ⟨b1, o1 + i * 13 + 3, none⟩ = some (.slice q.kA q.ks.length q.kc) := pw_cell_below HB.out (hcq 3 _ rfl)
      have cq4 : wr.cell? ⟨b1, o1 + i * 13 + 4, none⟩ = some (.int .i64 q.r.fl) := pw_cell_below HB.out (hcq 4 _ rfl)
      have cq5 : wr.cell? ⟨b1, o1 + i * 13 + 5, none⟩ = some (.int .i64 q.r.exp) := pw_cell_below HB.out (hcq 5 _ rfl)
      have cq6 : wr.cell? ⟨b1, o1 + i * 13 + 6, none⟩ = some (.int .i64 q.r.bytes) := pw_cell_below HB.out (hcq 6 _ rfl)
      have cq7 : wr.cell? ⟨b1, o1 + i * 13 + 7, none⟩ = some (.int .i64 q.r.cas) := pw_cell_below HB.out (hcq 7 _ rfl)
      have cq8 : wr.cell? ⟨b1, o1 + i * 13 + 8, none⟩ = some (.int .u64 q.r.delta) := pw_cell_below HB.out (hcq 8 _ rfl)
      have cq9 : wr.cell? ⟨b1, o1 + i * 13 + 9, none⟩ = some (.bool q.r.quiet) := pw_cell_below HB.out (hcq 9 _ rfl)
      have cq10 : wr.cell? ⟨b1, o1 + i * 13 + 10, none⟩ = some (.string q.r.data) := pw_cell_below HB.out (hcq 10 _ rfl)
      have cq11 : wr.cell? ⟨b1, o1 + i * 13 + 11, none⟩ = some (.int .i64 q.now) := pw_cell_below HB.out (hcq 11 _ rfl)
      have cq12 : wr.cell? ⟨b1, o1 + i * 13 + 12, none⟩ = some (.int .i64 q.ver) := pw_cell_below HB.out (hcq 12 _ rfl)
      clear hq hcells hks hdl hls hcq hi hlt
      go_wp2_with (refine gate_ (.load 53 (.tmp 16)) rfl ?_; refine ev_load_row (.load 53 (.tmp 16)) rfl rfl 53 (.tmp 16) rfl wr.heap.size rfl 53 q.c _ (blk_new wr (.cells q.c 53)) Tryd.underlying53 rfl (by kernel_rfl) ?_)
      go_at_call 22
      refine (light_calls q _ (HQ.out.1.below (below_step HB.out (below_alloc (Below.refl _ _) _))) (Nat.le_trans HQ.out.2.2 (by decide))).mono ?_
      rintro e_2 w_2 ⟨rfl, hb⟩
      have hbw := below_step (below_alloc (Below.refl wr.heap.size wr) (.cells q.c 53)) hb
      have b53 := (hb.block wr.heap.size (by simp)).trans (blk_new wr (.cells q.c 53))
      have HM2 := Aside0.mk (HM.out.below hbw)
      have HT2 := Aside0.mk (HT.out.below hbw)
      have HB2 := Aside0.mk (below_step HB.out hbw)
      have HKS := Aside0.mk (HQ.out.1.below HB2.out)
      have dq0 : w_2.cell? ⟨wr.heap.size, 0, none⟩ = some (.bool q.lost) := blk_cell b53 0
      have dq1 : w_2.cell? ⟨wr.heap.size, 1, none⟩ = some (.string q.key) := blk_cell b53 1
      have dq2 : w_2.cell? ⟨wr.heap.size, 2, none⟩ = some (.int .i64 q.r.verb) := blk_cell b53 2
      have dq3 : w_2.cell? ⟨wr.heap.size, 3, none⟩ = some (.slice q.kA q.ks.length q.kc) := blk_cell b53 3
      have dq4 : w_2.cell? ⟨wr.heap.size, 4, none⟩ = some (.int .i64 q.r.fl) := blk_cell b53 4
      have dq5 : w_2.cell? ⟨wr.heap.size, 5, none⟩ = some (.int .i64 q.r.exp) := blk_cell b53 5
      have dq6 : w_2.cell? ⟨wr.heap.size, 6, none⟩ = some (.int .i64 q.r.bytes) := blk_cell b53 6
      have dq7 : w_2.cell? ⟨wr.heap.size, 7, none⟩ = some (.int .i64 q.r.cas) := blk_cell b53 7
      have dq8 : w_2.cell? ⟨wr.heap.size, 8, none⟩ = some (.int .u64 q.r.delta) := blk_cell b53 8
      have dq9 : w_2.cell? ⟨wr.heap.size, 9, none⟩ = some (.bool q.r.quiet) := blk_cell b53 9
      have dq10 : w_2.cell? ⟨wr.heap.size, 10, none⟩ = some (.string q.r.data) := blk_cell b53 10
      have dq11 : w_2.cell? ⟨wr.heap.size, 11, none⟩ = some (.int .i64 q.now) := blk_cell b53 11
      have dq12 : w_2.cell? ⟨wr.heap.size, 12, none⟩ = some (.int .i64 q.ver) := blk_cell b53 12
      clear hb hbw b53 HM HT HB cq0 cq1 cq2 cq3 cq4 cq5 cq6 cq7 cq8 cq9 cq10 cq11 cq12
      have HS5 := Aside0.mk (show q.key.size ≤ 1048576 ∧ q.r.data.size ≤ 1048576 ∧ q.ks.length ≤ 1048576 by have h1 := HQ.out.2.2; have h2 := len_le_psum q.ks; unfold lightSum at h1; omega)
      by_cases hlg : lightSum q < 1000
      · have e1 : decide (lightSum q < 1000) = true := decide_eq_true hlg
        have HS6 := Aside0.mk (show q.ks.length ≤ 1000000 by have h2 := len_le_psum q.ks; unfold lightSum at hlg; omega)
        clear hlg
        by_cases hv : q.r.verb = 13
        · have e2 : (q.r.verb == 13) = true := by rw [hv]; rfl
          clear hv
          go_wp2_with fail
          go_roundg (N - (i + 1))
          case measure => have := HI.out; have := HL.out; have := HN.out; omega
          case rel => exact ⟨i + 1, f, by have := HI.out; have := HL.out; have := HN.out; omega, by go_num, HFK.out, HM2.out.grow (by omega), HT2.out, HB2.out⟩
        · have e2 : (q.r.verb == 13) = false := beq_eq_false_iff_ne.2 hv
          have HV := Aside0.mk hv
          clear hv
          by_cases hke : q.key = key
          · have e3 : (q.key.toList == key.toList) = true := by rw [hke]; exact beq_self_eq_true _
            clear hke
            go_wp2_with fail
            go_roundg (N - (i + 1))
            case measure => have := HI.out; have := HL.out; have := HN.out; omega
            case rel => exact ⟨i + 1, f, by have := HI.out; have := HL.out; have := HN.out; omega, by go_num, HFK.out, HM2.out.grow (by omega), HT2.out, HB2.out⟩
          · have HKE := Aside0.mk hke
            have e3 : (q.key.toList == key.toList) = false := beq_eq_false_iff_ne.2 (fun h => hke (ba_inj (by rw [← ByteArray.toList_eq, ← ByteArray.toList_eq]; exact h)))
            clear hke
            by_cases hz : q.ks.length = 0
            · have e4 : ¬ (0 : Int) < (q.ks.length : Int) := by omega
              have e5 : decide ((0 : Int) < (q.ks.length : Int)) = false := decide_eq_false e4
              have HK0 := Aside0.mk (show ∀ k, q.ks[0]? = some k → key ≠ k from fun k hk => by have := (List.getElem?_eq_some_iff.1 hk).1; omega)
              clear hz
              cases hlo : q.lost
              · rw [hlo] at dq0
                clear hlo
                go_wp2_with fail
                go_at_call 16
                refine (apply_any g b _ f q.r (q.kA) q.kc q.ks _ _ _ HM2.out (by unfold maxLen; have := HL.out; omega) HKS.out HS6.out HV.out HT2.out (Nat.le_trans HS5.out.2.1 (by decide)) HQ.out.2.1 key HK0.out).mono ?_
                rintro e_3 w_3 ⟨c3, f', rfl, hm, hf, hmod⟩
                have HM3 := Aside0.mk hm
                have HF3 := Aside0.mk (hf.trans HFK.out)
                have HT3 := Aside0.mk (HT2.out.mod hmod (fun e => by have := HG.out; omega))
                have HB3 := Aside0.mk (hmod.after HB2.out HB2.out.size (fun q hq => by rw [hq]; exact HG.out.1))
                clear hm hf hmod
                go_wp2_with fail
                go_roundg (N - (i + 1))
                case measure => have := HI.out; have := HL.out; have := HN.out; omega
                case rel => exact ⟨i + 1, f', by have := HI.out; have := HL.out; have := HN.out; omega, by go_num, HF3.out, HM3.out, HT3.out, HB3.out⟩
              · rw [hlo] at dq0
                clear hlo
                go_wp2_with fail
                go_at_call 23
                refine (forget_calls g b _ f q.key _ HM2.out (by unfold maxLen; have := HS5.out; omega)).mono ?_
                rintro e_3 w_3 ⟨c3, rfl, hm, hmod⟩
                have HM3 := Aside0.mk hm
                have HF3 := Aside0.mk ((upd_ne f q.key key none (fun h => HKE.out h.symm)).trans HFK.out)
                have HT3 := Aside0.mk (HT2.out.mod hmod (fun e => by have := HG.out; omega))
                have HB3 := Aside0.mk (hmod.after HB2.out HB2.out.size (fun q hq => by rw [hq]; exact HG.out.1))
                clear hm hmod
                go_wp2_with fail
                go_roundg (N - (i + 1))
                case measure => have := HI.out; have := HL.out; have := HN.out; omega
                case rel => exact ⟨i + 1, _, by have := HI.out; have := HL.out; have := HN.out; omega, by go_num, HF3.out, HM3.out.grow (by omega), HT3.out, HB3.out⟩
            · have e4 : (0 : Int) < (q.ks.length : Int) := by omega
              have e5 : decide ((0 : Int) < (q.ks.length : Int)) = true := decide_eq_true e4
              obtain ⟨k1, hk1⟩ : ∃ k, q.ks[0]? = some k := ⟨_, List.getElem?_eq_getElem (by omega)⟩
              obtain ⟨ad, hA, hc⟩ := HKS.out.1 (fun e => by rw [e] at hz; exact hz rfl)
              have ck1 : w_2.cell? (ad.add 0) = some (.string k1) := hc 0 k1 hk1
              have ck0 : w_2.cell? ad = some (.string k1) := by rwa [show ad.add 0 = ad by unfold Addr.add; simp] at ck1
              have HKA := Aside0.mk hA
              have HK1 := Aside0.mk hk1
              rw [hA] at dq3
              clear hz hc hA hk1
              by_cases hkk : k1 = key
              · have e6 : (k1.toList == key.toList) = true := by rw [hkk]; exact beq_self_eq_true _
                clear hkk
                go_wp2_with fail
                go_roundg (N - (i + 1))
                case measure => have := HI.out; have := HL.out; have := HN.out; omega
                case rel => exact ⟨i + 1, f, by have := HI.out; have := HL.out; have := HN.out; omega, by go_num, HFK.out, HM2.out.grow (by omega), HT2.out, HB2.out⟩
              · have e6 : (k1.toList == key.toList) = false := beq_eq_false_iff_ne.2 (fun h => hkk (ba_inj (by rw [← ByteArray.toList_eq, ← ByteArray.toList_eq]; exact h)))
                have HK0 := Aside0.mk (show ∀ k, q.ks[0]? = some k → key ≠ k from fun k hk h => by rw [HK1.out] at hk; exact hkk ((Option.some.inj hk).trans h.symm))
                clear hkk
                cases hlo : q.lost
                · rw [hlo] at dq0
                  clear hlo
                  go_wp2_with fail
                  go_at_call 16
                  refine (apply_any g b _ f q.r (some ad) q.kc q.ks _ _ _ HM2.out (by unfold maxLen; have := HL.out; omega) (show Ks w_2 (some ad) q.ks from HKA.out ▸ HKS.out) HS6.out HV.out HT2.out (Nat.le_trans HS5.out.2.1 (by decide)) HQ.out.2.1 key HK0.out).mono ?_
                  rintro e_3 w_3 ⟨c3, f', rfl, hm, hf, hmod⟩
                  have HM3 := Aside0.mk hm
                  have HF3 := Aside0.mk (hf.trans HFK.out)
                  have HT3 := Aside0.mk (HT2.out.mod hmod (fun e => by have := HG.out; omega))
                  have HB3 := Aside0.mk (hmod.after HB2.out HB2.out.size (fun q hq => by rw [hq]; exact HG.out.1))
                  clear hm hf hmod
                  go_wp2_with fail
                  go_roundg (N - (i + 1))
                  case measure => have := HI.out; have := HL.out; have := HN.out; omega
                  case rel => exact ⟨i + 1, f', by have := HI.out; have := HL.out; have := HN.out; omega, by go_num, HF3.out, HM3.out, HT3.out, HB3.out⟩
                · rw [hlo] at dq0
                  clear hlo
                  go_wp2_with fail
                  go_at_call 23
                  refine (forget_calls g b _ f q.key _ HM2.out (by unfold maxLen; have := HS5.out; omega)).mono ?_
                  rintro e_3 w_3 ⟨c3, rfl, hm, hmod⟩
                  have HM3 := Aside0.mk hm
                  have HF3 := Aside0.mk ((upd_ne f q.key key none (fun h => HKE.out h.symm)).trans HFK.out)
                  have HT3 := Aside0.mk (HT2.out.mod hmod (fun e => by have := HG.out; omega))
                  have HB3 := Aside0.mk (hmod.after HB2.out HB2.out.size (fun q hq => by rw [hq]; exact HG.out.1))
                  clear hm hmod
                  go_wp2_with fail
                  go_roundg (N - (i + 1))
                  case measure => have := HI.out; have := HL.out; have := HN.out; omega
                  case rel => exact ⟨i + 1, _, by have := HI.out; have := HL.out; have := HN.out; omega, by go_num, HF3.out, HM3.out.grow (by omega), HT3.out, HB3.out⟩
      · have e1 : decide (lightSum q < 1000) = false := decide_eq_false hlg
        clear hlg
        go_wp2_with fail
        go_roundg (N - (i + 1))
        case measure => have := HI.out; have := HL.out; have := HN.out; omega
        case rel => exact ⟨i + 1, f, by have := HI.out; have := HL.out; have := HN.out; omega, by go_num, HFK.out, HM2.out.grow (by omega), HT2.out, HB2.out⟩
    · have HI2 := Aside0.mk (show i ≤ 30 by have := HN.out; omega)
      by_cases hl2 : i < n
      · have r1 : decide ((i : Int) < (n : Int)) = true := decide_eq_true (by omega)
        have r2 : decide ((i : Int) < 30) = false := decide_eq_false (by have := HN.out; omega)
        have r1' : (i : Int) < (n : Int) := by omega
        have r2' : ¬ (i : Int) < 30 := by have := HN.out; omega
        clear hi hlt hl2
        have hl1 : 1 ≤ L := HLL.out.1
        have hl2 : L ≤ 2592000 := HLL.out.2
        go_wp2_with fail
        refine calls_at (fun W => Below wr.heap.size wr W ∧ W.heap[wr.heap.size]? = some (.cells #[.string key] 9 (0, 0)) ∧ W.heap[wr.heap.size + 1]? = some (.cells #[.int .i64 2, .slice (some ⟨wr.heap.size, 0, none⟩) 1 1, .int .i64 0, .int .i64 0, .int .i64 0, .int .i64 0, .int .u64 0, .bool false, .string ⟨#[]⟩] 27 (0, 0))) (blks2' wr (.cells #[.string key] 9) (.cells #[.int .i64 2, .slice (some ⟨wr.heap.size, 0, none⟩) 1 1, .int .i64 0, .int .i64 0, .int .i64 0, .int .i64 0, .int .u64 0, .bool false, .string ⟨#[]⟩] 27)) (fun W hW => ?_)
        rcases hW with ⟨hb, h1, h2⟩
        have HT_n := Aside0.mk (HT.out.below hb)
        have HB_n := Aside0.mk (HB.out.trans (hb.mono HB.out.size))
        have HM_n := Aside0.mk (HM.out.below hb)
        clear HT; have HT := HT_n; clear HT_n
        clear HB; have HB := HB_n; clear HB_n
        clear HM; have HM := HM_n; clear HM_n
        clear hb
        obtain ⟨gk, hgk⟩ : ∃ gk, gk = wr.heap.size := ⟨_, rfl⟩
        rw [← hgk] at h1 h2 ⊢
        clear hgk
        have BK := Aside0.mk h1
        have BR := Aside0.mk h2
        clear h1 h2
        go_at_call 16
        have HKs := Aside0.mk (show Ks _ (some ⟨gk, 0, none⟩) [key] from ks_one (blk_cell BK.out 0) (show key.size ≤ maxLen by unfold maxLen; have := HZ.out; omega))
        refine (apply_get2 g b _ (f) ⟨2, 0, 0, 0, 0, 0, false, ⟨#[]⟩⟩ (some ⟨gk, 0, none⟩) 1 [key] _ _ _ HM.out HKs.out (show 1 ≤ 1000000 by decide) rfl).mono ?_
        rintro e_301 w_6 ⟨v, rfl, hown, hb⟩
        rw [founds_live HFK.out (live_in HLL.out.1 HLL.out.2 (by omega))] at hown
        obtain ⟨Av, cv, rfl⟩ := own_slice hown
        have RV := Aside0.mk hown
        clear hown HKs
        simp only [ansV, List.length_singleton]
        have HT_n := Aside0.mk (HT.out.below hb)
        have HB_n := Aside0.mk (HB.out.trans (hb.mono HB.out.size))
        have HM_n := Aside0.mk (HM.out.below hb)
        have BK_n := Aside0.mk ((hb.block _ (blk_lt BK.out)).trans BK.out)
        have BR_n := Aside0.mk ((hb.block _ (blk_lt BR.out)).trans BR.out)
        clear HT; have HT := HT_n; clear HT_n
        clear HB; have HB := HB_n; clear HB_n
        clear HM; have HM := HM_n; clear HM_n
        clear BK; have BK := BK_n; clear BK_n
        clear BR; have BR := BR_n; clear BR_n
        clear hb
        have h5 := RV.out
        obtain ⟨go, rfl⟩ : ∃ go, Av = some ⟨go, 0, none⟩ := by
          rcases h5.2 with ⟨e, hz⟩ | ⟨go, cap, cur, e, _⟩
          · simp at hz
          · injection e with e1
            exact ⟨go, e1⟩
        have e0 : ∀ o, (w_6.alloc o).cell? ⟨go, 0, none⟩ = some (.string key) := fun o => (own_alloc h5 o).cellAt 0 (by simp)
        have e1 : ∀ o, (w_6.alloc o).cell? ⟨go, 1, none⟩ = some (.int .i64 fl) := fun o => (own_alloc h5 o).cellAt 1 (by simp)
        have e2 : ∀ o, (w_6.alloc o).cell? ⟨go, 2, none⟩ = some (.string d) := fun o => (own_alloc h5 o).cellAt 2 (by simp)
        have e3 : ∀ o, (w_6.alloc o).cell? ⟨go, 3, none⟩ = some (.int .i64 7) := fun o => (own_alloc h5 o).cellAt 3 (by simp)
        have k0 : ∀ o, (w_6.alloc o).cell? ⟨gk + 1, 0, none⟩ = some (.int .i64 2) := fun o => blk_cell (blk_alloc BR.out o) 0
        have k1 : ∀ o, (w_6.alloc o).cell? ⟨gk + 1, 1, none⟩ = some (.slice (some ⟨gk, 0, none⟩) 1 1) := fun o => blk_cell (blk_alloc BR.out o) 1
        have k2 : ∀ o, (w_6.alloc o).cell? ⟨gk + 1, 2, none⟩ = some (.int .i64 0) := fun o => blk_cell (blk_alloc BR.out o) 2
        have k3 : ∀ o, (w_6.alloc o).cell? ⟨gk + 1, 3, none⟩ = some (.int .i64 0) := fun o => blk_cell (blk_alloc BR.out o) 3
        have k4 : ∀ o, (w_6.alloc o).cell? ⟨gk + 1, 4, none⟩ = some (.int .i64 0) := fun o => blk_cell (blk_alloc BR.out o) 4
        have k5 : ∀ o, (w_6.alloc o).cell? ⟨gk + 1, 5, none⟩ = some (.int .i64 0) := fun o => blk_cell (blk_alloc BR.out o) 5
        have k6 : ∀ o, (w_6.alloc o).cell? ⟨gk + 1, 6, none⟩ = some (.int .u64 0) := fun o => blk_cell (blk_alloc BR.out o) 6
        have k7 : ∀ o, (w_6.alloc o).cell? ⟨gk + 1, 7, none⟩ = some (.bool false) := fun o => blk_cell (blk_alloc BR.out o) 7
        have k8 : ∀ o, (w_6.alloc o).cell? ⟨gk + 1, 8, none⟩ = some (.string ⟨#[]⟩) := fun o => blk_cell (blk_alloc BR.out o) 8
        clear h5
        have q35 := eq35 key d fl 7
        go_wp2_with fail
        refine calls_at (fun W => Below w_6.heap.size w_6 W) (below_alloc (Below.refl _ _) _) (fun W hW => ?_)
        have hb := hW
        clear hW
        clear e0 e1 e2 e3 k0 k1 k2 k3 k4 k5 k6 k7 k8 q35 RV
        have HT_n := Aside0.mk (HT.out.below hb)
        have HB_n := Aside0.mk (HB.out.trans (hb.mono HB.out.size))
        have HM_n := Aside0.mk (HM.out.below hb)
        have BK_n := Aside0.mk ((hb.block _ (blk_lt BK.out)).trans BK.out)
        have BR_n := Aside0.mk ((hb.block _ (blk_lt BR.out)).trans BR.out)
        clear HT; have HT := HT_n; clear HT_n
        clear HB; have HB := HB_n; clear HB_n
        clear HM; have HM := HM_n; clear HM_n
        clear BK; have BK := BK_n; clear BK_n
        clear BR; have BR := BR_n; clear BR_n
        clear hb
        go_at_call 16
        have HKs := Aside0.mk (show Ks _ (some ⟨gk, 0, none⟩) [key] from ks_one (blk_cell BK.out 0) (show key.size ≤ maxLen by unfold maxLen; have := HZ.out; omega))
        refine (apply_get2 g b _ (f) ⟨2, 0, 0, 0, 0, 0, false, ⟨#[]⟩⟩ (some ⟨gk, 0, none⟩) 1 [key] _ _ _ HM.out HKs.out (show 1 ≤ 1000000 by decide) rfl).mono ?_
        rintro e_302 w_7 ⟨u, rfl, hown, hb⟩
        rw [founds_dead HFK.out (live_out HLL.out.1 HLL.out.2 (by omega))] at hown
        obtain ⟨Au, cu, rfl⟩ := own_slice hown
        have RU := Aside0.mk hown
        clear hown HKs
        simp only [ansV, List.length_nil]
        have HT_n := Aside0.mk (HT.out.below hb)
        have HB_n := Aside0.mk (HB.out.trans (hb.mono HB.out.size))
        have HM_n := Aside0.mk (HM.out.below hb)
        have BK_n := Aside0.mk ((hb.block _ (blk_lt BK.out)).trans BK.out)
        have BR_n := Aside0.mk ((hb.block _ (blk_lt BR.out)).trans BR.out)
        clear HT; have HT := HT_n; clear HT_n
        clear HB; have HB := HB_n; clear HB_n
        clear HM; have HM := HM_n; clear HM_n
        clear BK; have BK := BK_n; clear BK_n
        clear BR; have BR := BR_n; clear BR_n
        clear hb
        have hfv := fldV Au 0 cu
        go_wp2_with fail
        go_at_call 21
        refine (within_three how _).mono ?_
        rintro e_400 w_8 ⟨x, rfl, hx0, hx2, rfl⟩
        clear hfv RU
        rcases (show x = 0 ∨ x = 1 ∨ x = 2 by omega) with rfl | rfl | rfl
        · go_wp2_with fail
          refine calls_at (fun W => Below w_8.heap.size w_8 W ∧ W.heap[w_8.heap.size]? = some (.cells #[.string key] 9 (0, 0))) (⟨below_alloc (Below.refl _ _) _, blk_new w_8 (.cells #[.string key] 9)⟩) (fun W hW => ?_)
          rcases hW with ⟨hb, h2⟩
          have CK := Aside0.mk (blk_cell h2 0)
          clear h2
          have HT_n := Aside0.mk (HT.out.below hb)
          have HB_n := Aside0.mk (HB.out.trans (hb.mono HB.out.size))
          have HM_n := Aside0.mk (HM.out.below hb)
          have BK_n := Aside0.mk ((hb.block _ (blk_lt BK.out)).trans BK.out)
          have BR_n := Aside0.mk ((hb.block _ (blk_lt BR.out)).trans BR.out)
          clear HT; have HT := HT_n; clear HT_n
          clear HB; have HB := HB_n; clear HB_n
          clear HM; have HM := HM_n; clear HM_n
          clear BK; have BK := BK_n; clear BK_n
          clear BR; have BR := BR_n; clear BR_n
          clear hb
          obtain ⟨g9, hg9⟩ : ∃ g9, g9 = w_8.heap.size := ⟨_, rfl⟩
          rw [← hg9] at CK ⊢
          clear hg9
          go_at_call 16
          refine (apply_one g b _ (f) (⟨9, 0, 0, 0, 0, 0, false, ⟨#[]⟩⟩) key ⟨g9, 0, none⟩ 1 _ _ _ HM.out (by unfold maxLen; have := HI2.out; omega) (show key.size ≤ maxLen by unfold maxLen; have := HZ.out; omega) CK.out (show (9 : Int) ≠ 1 ∧ (9 : Int) ≠ 2 ∧ (9 : Int) ≠ 13 by decide) HT.out (by decide) (show (0 : Int) ≤ 0 by decide)).mono ?_
          rintro e_411 w_9 ⟨rfl, hmd, hm⟩
          rw [to_del HFK.out (live_in HLL.out.1 HLL.out.2 (by have := HLL.out; omega))] at hmd ⊢
          simp only [An.c, ans, say]
          clear CK
          have HT_n := Aside0.mk (HT.out.mod hm (fun e => by have := HG.out; omega))
          have HB_n := Aside0.mk (hm.after HB.out HB.out.size (fun q hq => by rw [hq]; exact HG.out.1))
          have BK_n := Aside0.mk (blk_map BK.out hm HM.out.mp)
          have BR_n := Aside0.mk (blk_map BR.out hm HM.out.mp)
          clear HT; have HT := HT_n; clear HT_n
          clear HB; have HB := HB_n; clear HB_n
          clear BK; have BK := BK_n; clear BK_n
          clear BR; have BR := BR_n; clear BR_n
          clear HM; have HM := Aside0.mk hmd; clear hmd hm
          have k0 : w_9.cell? ⟨gk + 1, 0, none⟩ = some (.int .i64 2) := blk_cell BR.out 0
          have k1 : w_9.cell? ⟨gk + 1, 1, none⟩ = some (.slice (some ⟨gk, 0, none⟩) 1 1) := blk_cell BR.out 1
          have k2 : w_9.cell? ⟨gk + 1, 2, none⟩ = some (.int .i64 0) := blk_cell BR.out 2
          have k3 : w_9.cell? ⟨gk + 1, 3, none⟩ = some (.int .i64 0) := blk_cell BR.out 3
          have k4 : w_9.cell? ⟨gk + 1, 4, none⟩ = some (.int .i64 0) := blk_cell BR.out 4
          have k5 : w_9.cell? ⟨gk + 1, 5, none⟩ = some (.int .i64 0) := blk_cell BR.out 5
          have k6 : w_9.cell? ⟨gk + 1, 6, none⟩ = some (.int .u64 0) := blk_cell BR.out 6
          have k7 : w_9.cell? ⟨gk + 1, 7, none⟩ = some (.bool false) := blk_cell BR.out 7
          have k8 : w_9.cell? ⟨gk + 1, 8, none⟩ = some (.string ⟨#[]⟩) := blk_cell BR.out 8
          go_wp2_with fail
          clear k0 k1 k2 k3 k4 k5 k6 k7 k8
          go_at_call 16
          have HKs := Aside0.mk (show Ks _ (some ⟨gk, 0, none⟩) [key] from ks_one (blk_cell BK.out 0) (show key.size ≤ maxLen by unfold maxLen; have := HZ.out; omega))
          refine (apply_get2 g b _ (upd f key none) ⟨2, 0, 0, 0, 0, 0, false, ⟨#[]⟩⟩ (some ⟨gk, 0, none⟩) 1 [key] _ _ _ HM.out HKs.out (show 1 ≤ 1000000 by decide) rfl).mono ?_
          rintro e_412 w_10 ⟨y, rfl, hown, hb⟩
          rw [founds_gone (upd_here f key none)] at hown
          obtain ⟨Ay, cy, rfl⟩ := own_slice hown
          have RY := Aside0.mk hown
          clear hown HKs
          simp only [ansV, List.length_nil]
          have HT_n := Aside0.mk (HT.out.below hb)
          have HB_n := Aside0.mk (HB.out.trans (hb.mono HB.out.size))
          have HM_n := Aside0.mk (HM.out.below hb)
          have BK_n := Aside0.mk ((hb.block _ (blk_lt BK.out)).trans BK.out)
          have BR_n := Aside0.mk ((hb.block _ (blk_lt BR.out)).trans BR.out)
          clear HT; have HT := HT_n; clear HT_n
          clear HB; have HB := HB_n; clear HB_n
          clear HM; have HM := HM_n; clear HM_n
          clear BK; have BK := BK_n; clear BK_n
          clear BR; have BR := BR_n; clear BR_n
          clear hb
          have hfv := fldV Ay 0 cy
          go_wp2_with fail
          go_at_call 3
          refine (runs_calls _ HT.out).mono ?_
          rintro e_500 w_e ⟨rfl, hb⟩
          have HBm := Aside0.mk (below_step HB.out hb)
          clear hb HB hfv
          go_wp2
          go_ret
          exact ⟨rfl, HBm.out⟩
        · go_wp2_with fail
          go_at_call 23
          refine (forget_calls g b _ f key _ HM.out (show key.size ≤ maxLen by unfold maxLen; have := HZ.out; omega)).mono ?_
          rintro e_420 w_9 ⟨c9, rfl, hmd, hm⟩
          have HT_n := Aside0.mk (HT.out.mod hm (fun e => by have := HG.out; omega))
          have HB_n := Aside0.mk (hm.after HB.out HB.out.size (fun q hq => by rw [hq]; exact HG.out.1))
          have BK_n := Aside0.mk (blk_map BK.out hm HM.out.mp)
          have BR_n := Aside0.mk (blk_map BR.out hm HM.out.mp)
          clear HT; have HT := HT_n; clear HT_n
          clear HB; have HB := HB_n; clear HB_n
          clear BK; have BK := BK_n; clear BK_n
          clear BR; have BR := BR_n; clear BR_n
          clear HM; have HM := Aside0.mk hmd; clear hmd hm
          have k0 : w_9.cell? ⟨gk + 1, 0, none⟩ = some (.int .i64 2) := blk_cell BR.out 0
          have k1 : w_9.cell? ⟨gk + 1, 1, none⟩ = some (.slice (some ⟨gk, 0, none⟩) 1 1) := blk_cell BR.out 1
          have k2 : w_9.cell? ⟨gk + 1, 2, none⟩ = some (.int .i64 0) := blk_cell BR.out 2
          have k3 : w_9.cell? ⟨gk + 1, 3, none⟩ = some (.int .i64 0) := blk_cell BR.out 3
          have k4 : w_9.cell? ⟨gk + 1, 4, none⟩ = some (.int .i64 0) := blk_cell BR.out 4
          have k5 : w_9.cell? ⟨gk + 1, 5, none⟩ = some (.int .i64 0) := blk_cell BR.out 5
          have k6 : w_9.cell? ⟨gk + 1, 6, none⟩ = some (.int .u64 0) := blk_cell BR.out 6
          have k7 : w_9.cell? ⟨gk + 1, 7, none⟩ = some (.bool false) := blk_cell BR.out 7
          have k8 : w_9.cell? ⟨gk + 1, 8, none⟩ = some (.string ⟨#[]⟩) := blk_cell BR.out 8
          go_wp2_with fail
          clear k0 k1 k2 k3 k4 k5 k6 k7 k8
          go_at_call 16
          have HKs := Aside0.mk (show Ks _ (some ⟨gk, 0, none⟩) [key] from ks_one (blk_cell BK.out 0) (show key.size ≤ maxLen by unfold maxLen; have := HZ.out; omega))
          refine (apply_get2 g b _ (upd f key none) ⟨2, 0, 0, 0, 0, 0, false, ⟨#[]⟩⟩ (some ⟨gk, 0, none⟩) 1 [key] _ _ _ HM.out HKs.out (show 1 ≤ 1000000 by decide) rfl).mono ?_
          rintro e_431 w_10 ⟨y, rfl, hown, hb⟩
          rw [founds_gone (upd_here f key none)] at hown
          obtain ⟨Ay, cy, rfl⟩ := own_slice hown
          have RY := Aside0.mk hown
          clear hown HKs
          simp only [ansV, List.length_nil]
          have HT_n := Aside0.mk (HT.out.below hb)
          have HB_n := Aside0.mk (HB.out.trans (hb.mono HB.out.size))
          have HM_n := Aside0.mk (HM.out.below hb)
          have BK_n := Aside0.mk ((hb.block _ (blk_lt BK.out)).trans BK.out)
          have BR_n := Aside0.mk ((hb.block _ (blk_lt BR.out)).trans BR.out)
          clear HT; have HT := HT_n; clear HT_n
          clear HB; have HB := HB_n; clear HB_n
          clear HM; have HM := HM_n; clear HM_n
          clear BK; have BK := BK_n; clear BK_n
          clear BR; have BR := BR_n; clear BR_n
          clear hb
          have hfv := fldV Ay 0 cy
          go_wp2_with fail
          go_at_call 3
          refine (runs_calls _ HT.out).mono ?_
          rintro e_500 w_e ⟨rfl, hb⟩
          have HBm := Aside0.mk (below_step HB.out hb)
          clear hb HB hfv
          go_wp2
          go_ret
          exact ⟨rfl, HBm.out⟩
        · go_wp2_with fail
          go_at_call 16
          refine (apply_flush g b _ f ⟨13, 0, 0, 0, 0, 0, false, ⟨#[]⟩⟩ (.slice none 0 0) _ _ _ HM.out rfl).mono ?_
          rintro e_430 w_9 ⟨rfl, b9, hmd, hb9, hm⟩
          simp only [ans]
          have BK_n := Aside0.mk (hm.blk BK.out (fun e => ne_of_type BK.out HM.out.blk (by decide) e))
          have BR_n := Aside0.mk (hm.blk BR.out (fun e => ne_of_type BR.out HM.out.blk (by decide) e))
          have HT_n := Aside0.mk (HT.out.mod hm (fun e => by have := HG.out; have := HG0.out; omega))
          have HB_n := Aside0.mk (hm.after HB.out HB.out.size (fun q hq => by rw [hq]; have := HG0.out; have := HG.out; omega))
          clear BK; have BK := BK_n; clear BK_n
          clear BR; have BR := BR_n; clear BR_n
          clear HT; have HT := HT_n; clear HT_n
          clear HB; have HB := HB_n; clear HB_n
          clear HM; have HM := Aside0.mk hmd; clear hmd hm hb9
          have k0 : w_9.cell? ⟨gk + 1, 0, none⟩ = some (.int .i64 2) := blk_cell BR.out 0
          have k1 : w_9.cell? ⟨gk + 1, 1, none⟩ = some (.slice (some ⟨gk, 0, none⟩) 1 1) := blk_cell BR.out 1
          have k2 : w_9.cell? ⟨gk + 1, 2, none⟩ = some (.int .i64 0) := blk_cell BR.out 2
          have k3 : w_9.cell? ⟨gk + 1, 3, none⟩ = some (.int .i64 0) := blk_cell BR.out 3
          have k4 : w_9.cell? ⟨gk + 1, 4, none⟩ = some (.int .i64 0) := blk_cell BR.out 4
          have k5 : w_9.cell? ⟨gk + 1, 5, none⟩ = some (.int .i64 0) := blk_cell BR.out 5
          have k6 : w_9.cell? ⟨gk + 1, 6, none⟩ = some (.int .u64 0) := blk_cell BR.out 6
          have k7 : w_9.cell? ⟨gk + 1, 7, none⟩ = some (.bool false) := blk_cell BR.out 7
          have k8 : w_9.cell? ⟨gk + 1, 8, none⟩ = some (.string ⟨#[]⟩) := blk_cell BR.out 8
          go_wp2_with fail
          clear k0 k1 k2 k3 k4 k5 k6 k7 k8
          go_at_call 16
          have HKs := Aside0.mk (show Ks _ (some ⟨gk, 0, none⟩) [key] from ks_one (blk_cell BK.out 0) (show key.size ≤ maxLen by unfold maxLen; have := HZ.out; omega))
          refine (apply_get2 g b9 _ (fun _ => none) ⟨2, 0, 0, 0, 0, 0, false, ⟨#[]⟩⟩ (some ⟨gk, 0, none⟩) 1 [key] _ _ _ HM.out HKs.out (show 1 ≤ 1000000 by decide) rfl).mono ?_
          rintro e_451 w_10 ⟨y, rfl, hown, hb⟩
          rw [founds_gone rfl] at hown
          obtain ⟨Ay, cy, rfl⟩ := own_slice hown
          have RY := Aside0.mk hown
          clear hown HKs
          simp only [ansV, List.length_nil]
          have HT_n := Aside0.mk (HT.out.below hb)
          have HB_n := Aside0.mk (HB.out.trans (hb.mono HB.out.size))
          have HM_n := Aside0.mk (HM.out.below hb)
          have BK_n := Aside0.mk ((hb.block _ (blk_lt BK.out)).trans BK.out)
          have BR_n := Aside0.mk ((hb.block _ (blk_lt BR.out)).trans BR.out)
          clear HT; have HT := HT_n; clear HT_n
          clear HB; have HB := HB_n; clear HB_n
          clear HM; have HM := HM_n; clear HM_n
          clear BK; have BK := BK_n; clear BK_n
          clear BR; have BR := BR_n; clear BR_n
          clear hb
          have hfv := fldV Ay 0 cy
          go_wp2_with fail
          go_at_call 3
          refine (runs_calls _ HT.out).mono ?_
          rintro e_500 w_e ⟨rfl, hb⟩
          have HBm := Aside0.mk (below_step HB.out hb)
          clear hb HB hfv
          go_wp2
          go_ret
          exact ⟨rfl, HBm.out⟩
      · have r1 : decide ((i : Int) < (n : Int)) = false := decide_eq_false (by omega)
        have r1' : ¬ (i : Int) < (n : Int) := by omega
        clear hi hlt hl2
        have hl1 : 1 ≤ L := HLL.out.1
        have hl2 : L ≤ 2592000 := HLL.out.2
        go_wp2_with fail
        refine calls_at (fun W => Below wr.heap.size wr W ∧ W.heap[wr.heap.size]? = some (.cells #[.string key] 9 (0, 0)) ∧ W.heap[wr.heap.size + 1]? = some (.cells #[.int .i64 2, .slice (some ⟨wr.heap.size, 0, none⟩) 1 1, .int .i64 0, .int .i64 0, .int .i64 0, .int .i64 0, .int .u64 0, .bool false, .string ⟨#[]⟩] 27 (0, 0))) (blks2' wr (.cells #[.string key] 9) (.cells #[.int .i64 2, .slice (some ⟨wr.heap.size, 0, none⟩) 1 1, .int .i64 0, .int .i64 0, .int .i64 0, .int .i64 0, .int .u64 0, .bool false, .string ⟨#[]⟩] 27)) (fun W hW => ?_)
        rcases hW with ⟨hb, h1, h2⟩
        have HT_n := Aside0.mk (HT.out.below hb)
        have HB_n := Aside0.mk (HB.out.trans (hb.mono HB.out.size))
        have HM_n := Aside0.mk (HM.out.below hb)
        clear HT; have HT := HT_n; clear HT_n
        clear HB; have HB := HB_n; clear HB_n
        clear HM; have HM := HM_n; clear HM_n
        clear hb
        obtain ⟨gk, hgk⟩ : ∃ gk, gk = wr.heap.size := ⟨_, rfl⟩
        rw [← hgk] at h1 h2 ⊢
        clear hgk
        have BK := Aside0.mk h1
        have BR := Aside0.mk h2
        clear h1 h2
        go_at_call 16
        have HKs := Aside0.mk (show Ks _ (some ⟨gk, 0, none⟩) [key] from ks_one (blk_cell BK.out 0) (show key.size ≤ maxLen by unfold maxLen; have := HZ.out; omega))
        refine (apply_get2 g b _ (f) ⟨2, 0, 0, 0, 0, 0, false, ⟨#[]⟩⟩ (some ⟨gk, 0, none⟩) 1 [key] _ _ _ HM.out HKs.out (show 1 ≤ 1000000 by decide) rfl).mono ?_
        rintro e_301 w_6 ⟨v, rfl, hown, hb⟩
        rw [founds_live HFK.out (live_in HLL.out.1 HLL.out.2 (by omega))] at hown
        obtain ⟨Av, cv, rfl⟩ := own_slice hown
        have RV := Aside0.mk hown
        clear hown HKs
        simp only [ansV, List.length_singleton]
        have HT_n := Aside0.mk (HT.out.below hb)
        have HB_n := Aside0.mk (HB.out.trans (hb.mono HB.out.size))
        have HM_n := Aside0.mk (HM.out.below hb)
        have BK_n := Aside0.mk ((hb.block _ (blk_lt BK.out)).trans BK.out)
        have BR_n := Aside0.mk ((hb.block _ (blk_lt BR.out)).trans BR.out)
        clear HT; have HT := HT_n; clear HT_n
        clear HB; have HB := HB_n; clear HB_n
        clear HM; have HM := HM_n; clear HM_n
        clear BK; have BK := BK_n; clear BK_n
        clear BR; have BR := BR_n; clear BR_n
        clear hb
        have h5 := RV.out
        obtain ⟨go, rfl⟩ : ∃ go, Av = some ⟨go, 0, none⟩ := by
          rcases h5.2 with ⟨e, hz⟩ | ⟨go, cap, cur, e, _⟩
          · simp at hz
          · injection e with e1
            exact ⟨go, e1⟩
        have e0 : ∀ o, (w_6.alloc o).cell? ⟨go, 0, none⟩ = some (.string key) := fun o => (own_alloc h5 o).cellAt 0 (by simp)
        have e1 : ∀ o, (w_6.alloc o).cell? ⟨go, 1, none⟩ = some (.int .i64 fl) := fun o => (own_alloc h5 o).cellAt 1 (by simp)
        have e2 : ∀ o, (w_6.alloc o).cell? ⟨go, 2, none⟩ = some (.string d) := fun o => (own_alloc h5 o).cellAt 2 (by simp)
        have e3 : ∀ o, (w_6.alloc o).cell? ⟨go, 3, none⟩ = some (.int .i64 7) := fun o => (own_alloc h5 o).cellAt 3 (by simp)
        have k0 : ∀ o, (w_6.alloc o).cell? ⟨gk + 1, 0, none⟩ = some (.int .i64 2) := fun o => blk_cell (blk_alloc BR.out o) 0
        have k1 : ∀ o, (w_6.alloc o).cell? ⟨gk + 1, 1, none⟩ = some (.slice (some ⟨gk, 0, none⟩) 1 1) := fun o => blk_cell (blk_alloc BR.out o) 1
        have k2 : ∀ o, (w_6.alloc o).cell? ⟨gk + 1, 2, none⟩ = some (.int .i64 0) := fun o => blk_cell (blk_alloc BR.out o) 2
        have k3 : ∀ o, (w_6.alloc o).cell? ⟨gk + 1, 3, none⟩ = some (.int .i64 0) := fun o => blk_cell (blk_alloc BR.out o) 3
        have k4 : ∀ o, (w_6.alloc o).cell? ⟨gk + 1, 4, none⟩ = some (.int .i64 0) := fun o => blk_cell (blk_alloc BR.out o) 4
        have k5 : ∀ o, (w_6.alloc o).cell? ⟨gk + 1, 5, none⟩ = some (.int .i64 0) := fun o => blk_cell (blk_alloc BR.out o) 5
        have k6 : ∀ o, (w_6.alloc o).cell? ⟨gk + 1, 6, none⟩ = some (.int .u64 0) := fun o => blk_cell (blk_alloc BR.out o) 6
        have k7 : ∀ o, (w_6.alloc o).cell? ⟨gk + 1, 7, none⟩ = some (.bool false) := fun o => blk_cell (blk_alloc BR.out o) 7
        have k8 : ∀ o, (w_6.alloc o).cell? ⟨gk + 1, 8, none⟩ = some (.string ⟨#[]⟩) := fun o => blk_cell (blk_alloc BR.out o) 8
        clear h5
        have q35 := eq35 key d fl 7
        go_wp2_with fail
        refine calls_at (fun W => Below w_6.heap.size w_6 W) (below_alloc (Below.refl _ _) _) (fun W hW => ?_)
        have hb := hW
        clear hW
        clear e0 e1 e2 e3 k0 k1 k2 k3 k4 k5 k6 k7 k8 q35 RV
        have HT_n := Aside0.mk (HT.out.below hb)
        have HB_n := Aside0.mk (HB.out.trans (hb.mono HB.out.size))
        have HM_n := Aside0.mk (HM.out.below hb)
        have BK_n := Aside0.mk ((hb.block _ (blk_lt BK.out)).trans BK.out)
        have BR_n := Aside0.mk ((hb.block _ (blk_lt BR.out)).trans BR.out)
        clear HT; have HT := HT_n; clear HT_n
        clear HB; have HB := HB_n; clear HB_n
        clear HM; have HM := HM_n; clear HM_n
        clear BK; have BK := BK_n; clear BK_n
        clear BR; have BR := BR_n; clear BR_n
        clear hb
        go_at_call 16
        have HKs := Aside0.mk (show Ks _ (some ⟨gk, 0, none⟩) [key] from ks_one (blk_cell BK.out 0) (show key.size ≤ maxLen by unfold maxLen; have := HZ.out; omega))
        refine (apply_get2 g b _ (f) ⟨2, 0, 0, 0, 0, 0, false, ⟨#[]⟩⟩ (some ⟨gk, 0, none⟩) 1 [key] _ _ _ HM.out HKs.out (show 1 ≤ 1000000 by decide) rfl).mono ?_
        rintro e_302 w_7 ⟨u, rfl, hown, hb⟩
        rw [founds_dead HFK.out (live_out HLL.out.1 HLL.out.2 (by omega))] at hown
        obtain ⟨Au, cu, rfl⟩ := own_slice hown
        have RU := Aside0.mk hown
        clear hown HKs
        simp only [ansV, List.length_nil]
        have HT_n := Aside0.mk (HT.out.below hb)
        have HB_n := Aside0.mk (HB.out.trans (hb.mono HB.out.size))
        have HM_n := Aside0.mk (HM.out.below hb)
        have BK_n := Aside0.mk ((hb.block _ (blk_lt BK.out)).trans BK.out)
        have BR_n := Aside0.mk ((hb.block _ (blk_lt BR.out)).trans BR.out)
        clear HT; have HT := HT_n; clear HT_n
        clear HB; have HB := HB_n; clear HB_n
        clear HM; have HM := HM_n; clear HM_n
        clear BK; have BK := BK_n; clear BK_n
        clear BR; have BR := BR_n; clear BR_n
        clear hb
        have hfv := fldV Au 0 cu
        go_wp2_with fail
        go_at_call 21
        refine (within_three how _).mono ?_
        rintro e_400 w_8 ⟨x, rfl, hx0, hx2, rfl⟩
        clear hfv RU
        rcases (show x = 0 ∨ x = 1 ∨ x = 2 by omega) with rfl | rfl | rfl
        · go_wp2_with fail
          refine calls_at (fun W => Below w_8.heap.size w_8 W ∧ W.heap[w_8.heap.size]? = some (.cells #[.string key] 9 (0, 0))) (⟨below_alloc (Below.refl _ _) _, blk_new w_8 (.cells #[.string key] 9)⟩) (fun W hW => ?_)
          rcases hW with ⟨hb, h2⟩
          have CK := Aside0.mk (blk_cell h2 0)
          clear h2
          have HT_n := Aside0.mk (HT.out.below hb)
          have HB_n := Aside0.mk (HB.out.trans (hb.mono HB.out.size))
          have HM_n := Aside0.mk (HM.out.below hb)
          have BK_n := Aside0.mk ((hb.block _ (blk_lt BK.out)).trans BK.out)
          have BR_n := Aside0.mk ((hb.block _ (blk_lt BR.out)).trans BR.out)
          clear HT; have HT := HT_n; clear HT_n
          clear HB; have HB := HB_n; clear HB_n
          clear HM; have HM := HM_n; clear HM_n
          clear BK; have BK := BK_n; clear BK_n
          clear BR; have BR := BR_n; clear BR_n
          clear hb
          obtain ⟨g9, hg9⟩ : ∃ g9, g9 = w_8.heap.size := ⟨_, rfl⟩
          rw [← hg9] at CK ⊢
          clear hg9
          go_at_call 16
          refine (apply_one g b _ (f) (⟨9, 0, 0, 0, 0, 0, false, ⟨#[]⟩⟩) key ⟨g9, 0, none⟩ 1 _ _ _ HM.out (by unfold maxLen; have := HI2.out; omega) (show key.size ≤ maxLen by unfold maxLen; have := HZ.out; omega) CK.out (show (9 : Int) ≠ 1 ∧ (9 : Int) ≠ 2 ∧ (9 : Int) ≠ 13 by decide) HT.out (by decide) (show (0 : Int) ≤ 0 by decide)).mono ?_
          rintro e_411 w_9 ⟨rfl, hmd, hm⟩
          rw [to_del HFK.out (live_in HLL.out.1 HLL.out.2 (by have := HLL.out; omega))] at hmd ⊢
          simp only [An.c, ans, say]
          clear CK
          have HT_n := Aside0.mk (HT.out.mod hm (fun e => by have := HG.out; omega))
          have HB_n := Aside0.mk (hm.after HB.out HB.out.size (fun q hq => by rw [hq]; exact HG.out.1))
          have BK_n := Aside0.mk (blk_map BK.out hm HM.out.mp)
          have BR_n := Aside0.mk (blk_map BR.out hm HM.out.mp)
          clear HT; have HT := HT_n; clear HT_n
          clear HB; have HB := HB_n; clear HB_n
          clear BK; have BK := BK_n; clear BK_n
          clear BR; have BR := BR_n; clear BR_n
          clear HM; have HM := Aside0.mk hmd; clear hmd hm
          have k0 : w_9.cell? ⟨gk + 1, 0, none⟩ = some (.int .i64 2) := blk_cell BR.out 0
          have k1 : w_9.cell? ⟨gk + 1, 1, none⟩ = some (.slice (some ⟨gk, 0, none⟩) 1 1) := blk_cell BR.out 1
          have k2 : w_9.cell? ⟨gk + 1, 2, none⟩ = some (.int .i64 0) := blk_cell BR.out 2
          have k3 : w_9.cell? ⟨gk + 1, 3, none⟩ = some (.int .i64 0) := blk_cell BR.out 3
          have k4 : w_9.cell? ⟨gk + 1, 4, none⟩ = some (.int .i64 0) := blk_cell BR.out 4
          have k5 : w_9.cell? ⟨gk + 1, 5, none⟩ = some (.int .i64 0) := blk_cell BR.out 5
          have k6 : w_9.cell? ⟨gk + 1, 6, none⟩ = some (.int .u64 0) := blk_cell BR.out 6
          have k7 : w_9.cell? ⟨gk + 1, 7, none⟩ = some (.bool false) := blk_cell BR.out 7
          have k8 : w_9.cell? ⟨gk + 1, 8, none⟩ = some (.string ⟨#[]⟩) := blk_cell BR.out 8
          go_wp2_with fail
          clear k0 k1 k2 k3 k4 k5 k6 k7 k8
          go_at_call 16
          have HKs := Aside0.mk (show Ks _ (some ⟨gk, 0, none⟩) [key] from ks_one (blk_cell BK.out 0) (show key.size ≤ maxLen by unfold maxLen; have := HZ.out; omega))
          refine (apply_get2 g b _ (upd f key none) ⟨2, 0, 0, 0, 0, 0, false, ⟨#[]⟩⟩ (some ⟨gk, 0, none⟩) 1 [key] _ _ _ HM.out HKs.out (show 1 ≤ 1000000 by decide) rfl).mono ?_
          rintro e_412 w_10 ⟨y, rfl, hown, hb⟩
          rw [founds_gone (upd_here f key none)] at hown
          obtain ⟨Ay, cy, rfl⟩ := own_slice hown
          have RY := Aside0.mk hown
          clear hown HKs
          simp only [ansV, List.length_nil]
          have HT_n := Aside0.mk (HT.out.below hb)
          have HB_n := Aside0.mk (HB.out.trans (hb.mono HB.out.size))
          have HM_n := Aside0.mk (HM.out.below hb)
          have BK_n := Aside0.mk ((hb.block _ (blk_lt BK.out)).trans BK.out)
          have BR_n := Aside0.mk ((hb.block _ (blk_lt BR.out)).trans BR.out)
          clear HT; have HT := HT_n; clear HT_n
          clear HB; have HB := HB_n; clear HB_n
          clear HM; have HM := HM_n; clear HM_n
          clear BK; have BK := BK_n; clear BK_n
          clear BR; have BR := BR_n; clear BR_n
          clear hb
          have hfv := fldV Ay 0 cy
          go_wp2_with fail
          go_at_call 3
          refine (runs_calls _ HT.out).mono ?_
          rintro e_500 w_e ⟨rfl, hb⟩
          have HBm := Aside0.mk (below_step HB.out hb)
          clear hb HB hfv
          go_wp2
          go_ret
          exact ⟨rfl, HBm.out⟩
        · go_wp2_with fail
          go_at_call 23
          refine (forget_calls g b _ f key _ HM.out (show key.size ≤ maxLen by unfold maxLen; have := HZ.out; omega)).mono ?_
          rintro e_420 w_9 ⟨c9, rfl, hmd, hm⟩
          have HT_n := Aside0.mk (HT.out.mod hm (fun e => by have := HG.out; omega))
          have HB_n := Aside0.mk (hm.after HB.out HB.out.size (fun q hq => by rw [hq]; exact HG.out.1))
          have BK_n := Aside0.mk (blk_map BK.out hm HM.out.mp)
          have BR_n := Aside0.mk (blk_map BR.out hm HM.out.mp)
          clear HT; have HT := HT_n; clear HT_n
          clear HB; have HB := HB_n; clear HB_n
          clear BK; have BK := BK_n; clear BK_n
          clear BR; have BR := BR_n; clear BR_n
          clear HM; have HM := Aside0.mk hmd; clear hmd hm
          have k0 : w_9.cell? ⟨gk + 1, 0, none⟩ = some (.int .i64 2) := blk_cell BR.out 0
          have k1 : w_9.cell? ⟨gk + 1, 1, none⟩ = some (.slice (some ⟨gk, 0, none⟩) 1 1) := blk_cell BR.out 1
          have k2 : w_9.cell? ⟨gk + 1, 2, none⟩ = some (.int .i64 0) := blk_cell BR.out 2
          have k3 : w_9.cell? ⟨gk + 1, 3, none⟩ = some (.int .i64 0) := blk_cell BR.out 3
          have k4 : w_9.cell? ⟨gk + 1, 4, none⟩ = some (.int .i64 0) := blk_cell BR.out 4
          have k5 : w_9.cell? ⟨gk + 1, 5, none⟩ = some (.int .i64 0) := blk_cell BR.out 5
          have k6 : w_9.cell? ⟨gk + 1, 6, none⟩ = some (.int .u64 0) := blk_cell BR.out 6
          have k7 : w_9.cell? ⟨gk + 1, 7, none⟩ = some (.bool false) := blk_cell BR.out 7
          have k8 : w_9.cell? ⟨gk + 1, 8, none⟩ = some (.string ⟨#[]⟩) := blk_cell BR.out 8
          go_wp2_with fail
          clear k0 k1 k2 k3 k4 k5 k6 k7 k8
          go_at_call 16
          have HKs := Aside0.mk (show Ks _ (some ⟨gk, 0, none⟩) [key] from ks_one (blk_cell BK.out 0) (show key.size ≤ maxLen by unfold maxLen; have := HZ.out; omega))
          refine (apply_get2 g b _ (upd f key none) ⟨2, 0, 0, 0, 0, 0, false, ⟨#[]⟩⟩ (some ⟨gk, 0, none⟩) 1 [key] _ _ _ HM.out HKs.out (show 1 ≤ 1000000 by decide) rfl).mono ?_
          rintro e_431 w_10 ⟨y, rfl, hown, hb⟩
          rw [founds_gone (upd_here f key none)] at hown
          obtain ⟨Ay, cy, rfl⟩ := own_slice hown
          have RY := Aside0.mk hown
          clear hown HKs
          simp only [ansV, List.length_nil]
          have HT_n := Aside0.mk (HT.out.below hb)
          have HB_n := Aside0.mk (HB.out.trans (hb.mono HB.out.size))
          have HM_n := Aside0.mk (HM.out.below hb)
          have BK_n := Aside0.mk ((hb.block _ (blk_lt BK.out)).trans BK.out)
          have BR_n := Aside0.mk ((hb.block _ (blk_lt BR.out)).trans BR.out)
          clear HT; have HT := HT_n; clear HT_n
          clear HB; have HB := HB_n; clear HB_n
          clear HM; have HM := HM_n; clear HM_n
          clear BK; have BK := BK_n; clear BK_n
          clear BR; have BR := BR_n; clear BR_n
          clear hb
          have hfv := fldV Ay 0 cy
          go_wp2_with fail
          go_at_call 3
          refine (runs_calls _ HT.out).mono ?_
          rintro e_500 w_e ⟨rfl, hb⟩
          have HBm := Aside0.mk (below_step HB.out hb)
          clear hb HB hfv
          go_wp2
          go_ret
          exact ⟨rfl, HBm.out⟩
        · go_wp2_with fail
          go_at_call 16
          refine (apply_flush g b _ f ⟨13, 0, 0, 0, 0, 0, false, ⟨#[]⟩⟩ (.slice none 0 0) _ _ _ HM.out rfl).mono ?_
          rintro e_430 w_9 ⟨rfl, b9, hmd, hb9, hm⟩
          simp only [ans]
          have BK_n := Aside0.mk (hm.blk BK.out (fun e => ne_of_type BK.out HM.out.blk (by decide) e))
          have BR_n := Aside0.mk (hm.blk BR.out (fun e => ne_of_type BR.out HM.out.blk (by decide) e))
          have HT_n := Aside0.mk (HT.out.mod hm (fun e => by have := HG.out; have := HG0.out; omega))
          have HB_n := Aside0.mk (hm.after HB.out HB.out.size (fun q hq => by rw [hq]; have := HG0.out; have := HG.out; omega))
          clear BK; have BK := BK_n; clear BK_n
          clear BR; have BR := BR_n; clear BR_n
          clear HT; have HT := HT_n; clear HT_n
          clear HB; have HB := HB_n; clear HB_n
          clear HM; have HM := Aside0.mk hmd; clear hmd hm hb9
          have k0 : w_9.cell? ⟨gk + 1, 0, none⟩ = some (.int .i64 2) := blk_cell BR.out 0
          have k1 : w_9.cell? ⟨gk + 1, 1, none⟩ = some (.slice (some ⟨gk, 0, none⟩) 1 1) := blk_cell BR.out 1
          have k2 : w_9.cell? ⟨gk + 1, 2, none⟩ = some (.int .i64 0) := blk_cell BR.out 2
          have k3 : w_9.cell? ⟨gk + 1, 3, none⟩ = some (.int .i64 0) := blk_cell BR.out 3
          have k4 : w_9.cell? ⟨gk + 1, 4, none⟩ = some (.int .i64 0) := blk_cell BR.out 4
          have k5 : w_9.cell? ⟨gk + 1, 5, none⟩ = some (.int .i64 0) := blk_cell BR.out 5
          have k6 : w_9.cell? ⟨gk + 1, 6, none⟩ = some (.int .u64 0) := blk_cell BR.out 6
          have k7 : w_9.cell? ⟨gk + 1, 7, none⟩ = some (.bool false) := blk_cell BR.out 7
          have k8 : w_9.cell? ⟨gk + 1, 8, none⟩ = some (.string ⟨#[]⟩) := blk_cell BR.out 8
          go_wp2_with fail
          clear k0 k1 k2 k3 k4 k5 k6 k7 k8
          go_at_call 16
          have HKs := Aside0.mk (show Ks _ (some ⟨gk, 0, none⟩) [key] from ks_one (blk_cell BK.out 0) (show key.size ≤ maxLen by unfold maxLen; have := HZ.out; omega))
          refine (apply_get2 g b9 _ (fun _ => none) ⟨2, 0, 0, 0, 0, 0, false, ⟨#[]⟩⟩ (some ⟨gk, 0, none⟩) 1 [key] _ _ _ HM.out HKs.out (show 1 ≤ 1000000 by decide) rfl).mono ?_
          rintro e_451 w_10 ⟨y, rfl, hown, hb⟩
          rw [founds_gone rfl] at hown
          obtain ⟨Ay, cy, rfl⟩ := own_slice hown
          have RY := Aside0.mk hown
          clear hown HKs
          simp only [ansV, List.length_nil]
          have HT_n := Aside0.mk (HT.out.below hb)
          have HB_n := Aside0.mk (HB.out.trans (hb.mono HB.out.size))
          have HM_n := Aside0.mk (HM.out.below hb)
          have BK_n := Aside0.mk ((hb.block _ (blk_lt BK.out)).trans BK.out)
          have BR_n := Aside0.mk ((hb.block _ (blk_lt BR.out)).trans BR.out)
          clear HT; have HT := HT_n; clear HT_n
          clear HB; have HB := HB_n; clear HB_n
          clear HM; have HM := HM_n; clear HM_n
          clear BK; have BK := BK_n; clear BK_n
          clear BR; have BR := BR_n; clear BR_n
          clear hb
          have hfv := fldV Ay 0 cy
          go_wp2_with fail
          go_at_call 3
          refine (runs_calls _ HT.out).mono ?_
          rintro e_500 w_e ⟨rfl, hb⟩
          have HBm := Aside0.mk (below_step HB.out hb)
          clear hb HB hfv
          go_wp2
          go_ret
          exact ⟨rfl, HBm.out⟩
theorem stays_card (key d : ByteArray) (fl ex how : Int) (hfl : (Lit.int .u32 fl).wf = true) (A : Option Addr) (n c : Nat) (as_ : List Ask) (w : World) (ht : Pow w) (hk : key.size ≤ 140737488351232) (hd : d.size ≤ 140737488351232) (ha : Asks w A n as_) :
    Calls Tryd.prog 8 #[.string key, .string d, .int .u32 fl, .int .i64 ex, .slice A n c, .int .i64 how] w fun e w' => e = .returned (.bool true) ∧ Below w.heap.size w w' := by
  have hf : 0 ≤ fl ∧ fl < 4294967296 := by
    have h1 : IntKind.u32.min = 0 := rfl
    have h2 : IntKind.u32.max = 4294967295 := by decide
    simp [Lit.wf] at hfl
    omega
  by_cases h0 : key.size = 0
  · obtain rfl : key = ⟨#[]⟩ := by
      obtain ⟨⟨l⟩⟩ := key
      have : l.length = 0 := h0
      obtain rfl := List.length_eq_zero_iff.1 this
      rfl
    exact stays_empty d _ _ _ _ w ht
  · by_cases hs : 500 < key.size + d.size
    · exact stays_long key d _ _ _ _ w ht (by omega) (by omega) (by omega) (by omega)
    · exact stays_calls key d fl ex how A n c as_ w ht hf (by omega) (by omega) ha
end Go.Proofs.YtepklobkppdliaaDoor.Md
namespace Go.Proofs.YtepklobkppdliaaDoor.Md
open Go
open _root_.Go.Proofs.YtepklobkppdliaaDoor.Rows (uptoSmall uptoBulk uptoBulkAll)
section
variable {H : Type} {enc : TypeId × Value → H}
/-- A law where what comes in is small: out of a contract. -/
theorem ret_small {C : Checked} {os : Os} {f : FuncId} {fn : Func} (s : ChangeSpec) {conds : List PathCond} {apart fresh handsOn again : Bool} {X : World → Array Value → Prop} (hX : ∀ (w w' : World) (args : Array Value), w.heap = w'.heap → X w args → X w' args)
    (own : ownKnob C.prog.godebug = none) (started : os.Started) (noInit : C.prog.inits.idxOf? f = none) (hfn : C.prog.funcs[f]? = some fn)
    (witness : ∃ (w : World) (tape : Tape) (i : Input), w.os = os ∧ (w.forCall tape i).Shaped C.prog ∧ i.vars = [] ∧ Input.okWide C.prog (w.forCall tape i) .any w.heap.size f i ∧
      (((Rows.OpenSpec.upto s).pre enc C.prog fn conds apart (w.forCall tape i).memory i.args ∧ X (w.forCall tape i).memory i.args) ∧ sizedMet enc C.prog fn (OpenSpec.ofChange s) apart (w.forCall tape i).memory i.args) ∧ ({} : Assume).holds C.prog (lone (Frame.enter C.prog f i.args .normal) [] (w.forCall tape i)))
    (contract : ∀ (W : World) (base : Nat) (args : Array Value) (ds gs : List (DataW H)) (before : List MemPlace),
      (∀ (j : Nat) t v, fn.params[j]? = some t → args[j]? = some v → Value.okWide C.prog W .any base t v) →
      DataW.Whole enc C.prog fn.params.toList s.vars apart W args.toList ds gs before →
      uptoBulkAll (ds ++ gs) ≤ 1048576 →
      (DataW.weightsEach C.prog (fn.params.toList ++ s.plain.varTypes C.prog) (ds ++ gs)).all (· ≤ reachBytes) = true → X W args →
      Calls C.prog f args W fun e W' => ∃ v, e = .returned v ∧ s.post enc C.prog fn apart fresh handsOn again W args v W') :
    ReturnsInHanded {} C os f .any (fun w args => ((Rows.OpenSpec.upto s).pre enc C.prog fn conds apart w args ∧ X w args) ∧ sizedMet enc C.prog fn (OpenSpec.ofChange s) apart w args) (s.post enc C.prog fn apart fresh handsOn again) := by
  refine returnsInHanded_of_calls own started noInit witness ?_
  intro w tape i _ _ _ hok hpre hholds
  obtain ⟨_, _, _, fn', hfn', _, _, _, _, hval⟩ := hok
  have e : fn' = fn := Option.some.inj (hfn'.symm.trans hfn)
  subst e
  obtain ⟨⟨hp, hx⟩, hz⟩ := hpre
  obtain ⟨ds, gs, before, hw, _, hkk⟩ := (OpenSpec.pre_some (s := Rows.OpenSpec.upto s) (k := uptoSmall) rfl conds apart _ _).1 hp
  have hw2 : DataW.Whole enc C.prog fn'.params.toList s.vars apart (w.forCall tape i).memory i.args.toList ds gs before := hw
  have hw' := DataW.Whole.of_heap (w' := w.forCall tape i) (by rfl) hw2
  refine (contract (w.forCall tape i) w.heap.size i.args ds gs before hval hw' (of_decide_eq_true hkk) (hz.weights hw2) (hX _ _ _ (by rfl) hx)).mono fun e W' ⟨v, he, hp⟩ => ?_
  subst he
  exact ChangeSpec.post_blind hp
theorem witness_small {C : Checked} {os : Os} {f : FuncId} {fn : Func} (s : ChangeSpec) {apart : Bool} {X : World → Array Value → Prop} (w0 : World) (args : Array Value) (fuel : Nat) (hos : w0.os = os)
    (hsh : (w0.forCall (fun _ _ => 0) ⟨#[], args, []⟩).Shaped C.prog)
    (hok : Input.okWideB C.prog (w0.forCall (fun _ _ => 0) ⟨#[], args, []⟩) f ⟨#[], args, []⟩ = true)
    (x : List (DataW H) × List (DataW H) × List MemPlace) (hw : DataW.whole enc C.prog (w0.forCall (fun _ _ => 0) ⟨#[], args, []⟩).memory fn.params.toList s.vars apart args.toList fuel = some x) (hk : uptoSmall H (x.1 ++ x.2.1) = true)
    (hsz : s.sizedB enc C.prog fn apart (w0.forCall (fun _ _ => 0) ⟨#[], args, []⟩).memory args fuel = true)
    (hx : X (w0.forCall (fun _ _ => 0) ⟨#[], args, []⟩).memory args) :
    ∃ (w : World) (tape : Tape) (i : Input), w.os = os ∧ (w.forCall tape i).Shaped C.prog ∧ i.vars = [] ∧ Input.okWide C.prog (w.forCall tape i) .any w.heap.size f i ∧
      (((Rows.OpenSpec.upto s).pre enc C.prog fn [] apart (w.forCall tape i).memory i.args ∧ X (w.forCall tape i).memory i.args) ∧ sizedMet enc C.prog fn (OpenSpec.ofChange s) apart (w.forCall tape i).memory i.args) ∧ ({} : Assume).holds C.prog (lone (Frame.enter C.prog f i.args .normal) [] (w.forCall tape i)) :=
  ⟨w0, fun _ _ => 0, ⟨#[], args, []⟩, hos, hsh, (Input.okWide_of_okWideB (base := 0) hok).1, (Input.okWide_of_okWideB hok).2,
    ⟨⟨(OpenSpec.pre_some (s := Rows.OpenSpec.upto s) (k := uptoSmall) rfl [] apart _ _).2 ⟨x.1, x.2.1, x.2.2, DataW.Whole_of_whole hw, rfl, hk⟩, hx⟩, sizedMet_of_sizedB hsz⟩, by
    simp only [Assume.holds]
    exact ⟨by simp, by simp, by simp, by simp, by simp⟩⟩
end
end Go.Proofs.YtepklobkppdliaaDoor.Md
namespace Go.Proofs.YtepklobkppdliaaDoor.modelStaysUpto
open Go.ChangeShapes Go.WideShapes Go.ChangeAt Go.RowKit
open Go.ChangeMaps (open_string shut_string)
set_option linter.unusedVariables false
theorem own : ownKnob Tryd.prog.godebug = none := by kernel_rfl
theorem laidOut : laidOutB Tryd.prog = true := by kernel_rfl
set_option maxRecDepth 100000 in
theorem lifted (os : Os) (started : os.Started) (H : Type) (enc : TypeId × Value → H) :
    ReturnsInHanded {} Tryd.checked os 8 .any (fun w args => ((Rows.OpenSpec.upto Rows.modelStaysSpec).pre enc Tryd.prog Tryd.f8 [] false w args ∧ laidMetH Tryd.prog Md.laidL w) ∧ sizedMet enc Tryd.prog Tryd.f8 (OpenSpec.ofChange Rows.modelStaysSpec) false w args) (Rows.modelStaysSpec.post enc Tryd.prog Tryd.f8 false true false false) := by
  refine Md.ret_small (C := Tryd.checked) Rows.modelStaysSpec (X := fun w _ => laidMetH Tryd.prog Md.laidL w) (fun _ _ _ hh h => h.of_heap hh) own started (by kernel_rfl) Tryd.func8
    (Md.witness_small (enc := enc) (C := Tryd.checked) (os := os) (X := fun w _ => laidMetH Tryd.prog Md.laidL w) Rows.modelStaysSpec (World.doorLaid Tryd.prog 24 os) #[.string ByteArray.empty, .string ByteArray.empty, .int .u32 0, .int .i64 0, .slice none 0 0, .int .i64 0] 8 rfl (World.shaped_of_RefB (by kernel_rfl) (by kernel_rfl)) (by kernel_rfl) ([.lit (.string []), .lit (.string []), .lit (.int .u32 0), .lit (.int .i64 0), .nil, .lit (.int .i64 0)], [], []) (by kernel_rfl) (by kernel_rfl) (by kernel_rfl) (Md.door_met os _)) ?_
  intro W base args ds gs before hval0 hW hbk hsz0 hL
  have hP := Md.pow_of_laid hL
  clear hL
  have hsz : (DataW.weightsEach Tryd.prog (Tryd.f8.params.toList ++ Rows.modelStaysSpec.plain.varTypes Tryd.prog) (ds ++ gs)).all (· ≤ reachBytes) = true := hsz0
  have hval : ∀ (j : Nat) t v, Tryd.f8.params[j]? = some t → args[j]? = some v → Value.okWide Tryd.prog W .any base t v := hval0
  have hW' := hW
  obtain ⟨p, q, hA0, hV, rfl, hfz, hnd⟩ := hW
  have hA : DataW.TrodAll enc Tryd.prog W 0 (fun _ => true) true Tryd.f8.params.toList args.toList ds p := hA0
  rw [Tryd.params8] at hA hval hsz
  obtain ⟨v0, vs0, d0, ds0, p0, q0, hargs, rfl, rfl, h0, r0⟩ := trodAll_cons hA
  obtain ⟨v1, vs1, d1, ds1, p1, q1, rfl, rfl, rfl, h1, r1⟩ := trodAll_cons r0
  obtain ⟨v2, vs2, d2, ds2, p2, q2, rfl, rfl, rfl, h2, r2⟩ := trodAll_cons r1
  obtain ⟨v3, vs3, d3, ds3, p3, q3, rfl, rfl, rfl, h3, r3⟩ := trodAll_cons r2
  obtain ⟨v4, vs4, d4, ds4, p4, q4, rfl, rfl, rfl, h4, r4⟩ := trodAll_cons r3
  obtain ⟨v5, vs5, d5, ds5, p5, q5, rfl, rfl, rfl, h5, r5⟩ := trodAll_cons r4
  obtain ⟨rfl, rfl, rfl⟩ := trodAll_nil r5
  obtain rfl : args = #[v0, v1, v2, v3, v4, v5] := by cases args; simp_all
  obtain ⟨rfl, rfl⟩ := trodVars_none hV
  obtain ⟨a0, rfl, rfl, rfl, y0⟩ := open_string Tryd.underlying9 (hval 0 9 v0 rfl rfl) h0
  have w0 : a0.size ≤ 140737488351232 := by
    have z := sized_string hsz (j := 0) (t := 9) rfl rfl
    rw [Array.length_toList] at z
    exact z
  obtain ⟨a1, rfl, rfl, rfl, y1⟩ := open_string Tryd.underlying9 (hval 1 9 v1 rfl rfl) h1
  have w1 : a1.size ≤ 140737488351232 := by
    have z := sized_string hsz (j := 1) (t := 9) rfl rfl
    rw [Array.length_toList] at z
    exact z
  obtain ⟨a2, rfl, rfl, rfl, w2⟩ := open_int Tryd.underlying49 (hval 2 49 v2 rfl rfl) h2
  obtain ⟨a3, rfl, rfl, rfl, w3⟩ := open_int Tryd.underlying3 (hval 3 3 v3 rfl rfl) h3
  obtain ⟨a4, len4, cap4, rfl⟩ := okWide_slice Tryd.underlying50 (hval 4 50 v4 rfl rfl)
  have k4 := h4
  have lt4 : ∀ x ∈ p4, x.block < W.heap.size := by obtain ⟨m, hm⟩ := k4; exact DataW.trod_lt m _ _ _ hm
  obtain ⟨hc4, l4, gA4⟩ : len4 ≤ cap4 ∧ ∃ xs, Md.Asks W a4 len4 xs := by
    obtain ⟨fuel, hf⟩ := h4
    exact (fun hf => Md.open_asks hf (Nat.le_trans (@Md.bulk_get _ _ 4 _ rfl) hbk)) hf
  obtain ⟨a5, rfl, rfl, rfl, w5⟩ := open_int Tryd.underlying3 (hval 5 3 v5 rfl rfl) h5
  clear hA0 hval0 hsz0 hsz
  refine (Md.stays_card a0 a1 a2 a3 a5 w2 a4 len4 cap4 l4 W hP w0 w1 gA4).mono fun e W' ⟨he, bel⟩ => ?_
  subst he
  exact ⟨_, rfl, _, _, _, [], _, [], hW', trodAll_mk1 (shut_bool Tryd.underlying4 _), (trodAll_cons_mk (shut_string Tryd.underlying9 y0) (trodAll_cons_mk (shut_string Tryd.underlying9 y1) (trodAll_cons_mk (shut_int Tryd.underlying49 w2) (trodAll_cons_mk (shut_int Tryd.underlying3 w3) (trodAll_cons_mk (Below.trod laidOut (by kernel_rfl) (of_decide_eq_true (by kernel_rfl)) k4 bel lt4) (trodAll_cons_mk (shut_int Tryd.underlying3 w5) trodAll_mk0)))))), rfl, bel.frame _, fun h => by cases h⟩
theorem over : Rows.modelStaysUptoRow.holds Tryd.pinned (Rows.OpenSpec.upto Rows.modelStaysSpec) :=
  OpenClaim.holds_of_cond 8 Tryd.f8 rfl rfl rfl rfl rfl rfl rfl ⟨rfl, rfl, rfl, rfl, rfl⟩ rfl rfl rfl rfl rfl (by kernel_rfl) Tryd.func8 (by kernel_rfl)
    (of_decide_eq_true (by kernel_rfl)) (by unfold Func.isWrapper; first | (rw [if_pos (by decide +kernel)]; kernel_rfl) | (rw [if_neg (by decide +kernel)]; exact ⟨rfl, rfl⟩))
    (fun os started H enc _ _ => lifted os started H enc)
/-- The tied card. -/
theorem proved : Rows.ModelStaysUptoCardSaid :=
  Claim7.holds_tied_plain_at .later [] [.data, .data, .data] true Rows.modelStaysUptoCard.stood.harness false
    over (fun _ h => by cases h) (by kernel_rfl) (fun _ h => by cases h) modelStaysUpto_row_tie rfl ⟨rfl, rfl⟩ (by kernel_rfl) rfl
    (fun f fn hf hfn => by
      obtain rfl : f = 8 := Option.some.inj ((show Tryd.prog.funcNamed Rows.modelStaysUptoRow.func = some 8 by kernel_rfl).symm.trans hf) |>.symm
      obtain rfl : fn = Tryd.f8 := (Option.some.inj (Tryd.func8.symm.trans hfn)).symm
      exact ⟨by kernel_rfl, fun j t ht => by
        rw [Tryd.params8] at ht
        have hm : t ∈ [9, 9, 49, 3, 50, 3] := by simpa using Array.mem_of_getElem? ht
        have hall : ([9, 9, 49, 3, 50, 3].all fun u => !Tryd.prog.wantsStandIn u) = true := by kernel_rfl
        exact (show Tryd.prog.wantsStandIn t = false by simpa using List.all_eq_true.1 hall t hm)⟩)
    (by kernel_rfl)
#print axioms proved
end Go.Proofs.YtepklobkppdliaaDoor.modelStaysUpto
namespace Go.Proofs.YtepklobkppdliaaDoor
/-- The card, under a short name, for the claim. -/
theorem modelStaysUpto_holds : Rows.ModelStaysUptoCardSaid := modelStaysUpto.proved
end Go.Proofs.YtepklobkppdliaaDoor
