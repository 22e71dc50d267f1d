/- The model: Within, Forget. The model: light. The model: any request on another key. -/
import Derived.Test.YtepklobkppdliaaDoorUAg
import Derived.Deep.LoopGhost
section
namespace Go.Proofs.YtepklobkppdliaaDoor.Md
open Go.RowKit Go.Proofs.YtepklobkppdliaaDoorW.PrintWords Go.Proofs.YtepklobkppdliaaDoorW.PrintLast Go.Proofs.YtepklobkppdliaaDoorW.PrintMore Go.Proofs.YtepklobkppdliaaDoor.Lib Go.Proofs.YtepklobkppdliaaDoor.Open
section
variable {ops : Array Oper} {rest : List Oper} {o : Oper} {a : Act} {Q : Exit → Act → World → Prop} {W : World} {b n : Nat} {f : ByteArray → Option Ent}
theorem ev_maplen (x : Operand) (ho : o.op = .call { callee := .builtin .len, args := #[x], argTypes := #[80] }) (hg : o.guard = none) (hx : a.eval x = .map (some b)) (hM : Mp W b n f)
    (h : ∀ m : Nat, wpList Tryd.prog ops Q rest (a.put o.dst (.int .i64 (m : Int))) W) : wpList Tryd.prog ops Q (o :: rest) a W := by
  obtain ⟨D, hD, _⟩ := hM
  exact wpList_len_own W hg x 80 ho 9 38 Tryd.underlying80 entR b n D hx hD (h _)
end
set_option maxHeartbeats 4000000 in
set_option maxRecDepth 100000 in
theorem forget_calls (g b n : Nat) (f : ByteArray → Option Ent) (k : ByteArray) (w : World) (h : Md w g b n f) (hk : k.size ≤ maxLen) :
    Calls Tryd.prog 23 #[.pointer (some ⟨g, 0, none⟩), .string k] w fun e w' => ∃ c, e = .returned (.bool c) ∧ Md w' g b n (upd f k none) ∧ Mod (fun q => q = b) w w' := by
  have c0 : w.cell? ⟨g, 0, none⟩ = some (.map (some b)) := blk_cell h.blk 0
  have HM := Aside0.mk h
  have HK := Aside0.mk hk
  clear h hk
  go_enter Tryd.func23, Tryd.ntmps23
  go_wp2_with (first | (refine gate_ (.call { callee := .builtin .len, args := #[.tmp 9], argTypes := #[80] }) rfl ?_; refine ev_maplen (.tmp 9) rfl rfl rfl HM.out.mp ?_; intro m1) | (refine gate_ (.call { callee := .builtin .len, args := #[.tmp 19], argTypes := #[80] }) rfl ?_; refine ev_maplen (.tmp 19) rfl rfl rfl HM2.out.mp ?_; intro m2) | (refine gate_ (.call { callee := .builtin .delete, args := #[.tmp 14, .tmp 15], argTypes := #[80, 9] }) rfl ?_; refine ev_delete (.tmp 14) (.tmp 15) rfl rfl rfl k rfl HM.out.mp HK.out ?_; intro w_3 hp hm; have HM2 := Aside0.mk (show Md w_3 g b n (upd f k none) from ⟨hm.blk HM.out.blk (fun e => HM.out.ne e.symm), hp, upd_vs HM.out.vs k none (fun e he => by cases he)⟩); have HMM := Aside0.mk hm; have c1 : w_3.cell? ⟨g, 0, none⟩ = some (.map (some b)) := blk_cell HM2.out.blk 0; clear hp hm))
  go_ret
  exact ⟨_, rfl, HM2.out, HMM.out⟩
end Go.Proofs.YtepklobkppdliaaDoor.Md
end
section
namespace Go.Proofs.YtepklobkppdliaaDoor.Md
open Go.RowKit Go.Proofs.YtepklobkppdliaaDoorW.PrintWords Go.Proofs.YtepklobkppdliaaDoorW.PrintLast Go.Proofs.YtepklobkppdliaaDoorW.PrintMore Go.Proofs.YtepklobkppdliaaDoor.Lib Go.Proofs.YtepklobkppdliaaDoor.Open
/-- An ask of the law. -/
structure Ask where
  lost : Bool
  key : ByteArray
  r : Rq
  ks : List ByteArray
  kA : Option Addr
  kc : Nat
  now : Int
  ver : Int
def Ask.kv (a : Ask) : Value := .slice a.kA a.ks.length a.kc
def Ask.c (a : Ask) : Array Value := #[.bool a.lost, .string a.key, .int .i64 a.r.verb, .slice a.kA a.ks.length a.kc, .int .i64 a.r.fl, .int .i64 a.r.exp, .int .i64 a.r.bytes, .int .i64 a.r.cas, .int .u64 a.r.delta, .bool a.r.quiet, .string a.r.data, .int .i64 a.now, .int .i64 a.ver]
def psum (l : List ByteArray) : Nat := (l.map (fun k => k.size + 1)).sum
theorem psum_step {l : List ByteArray} {i : Nat} {k : ByteArray} (h : l[i]? = some k) : psum (l.take (i + 1)) = psum (l.take i) + (k.size + 1) := by
  unfold psum
  rw [List.take_add_one, h, Option.toList_some, List.map_append, List.sum_append]
  simp
theorem psum_le (l : List ByteArray) (i : Nat) : psum (l.take i) ≤ psum l := by
  unfold psum
  have h : l.map (fun k => k.size + 1) = (l.take i).map (fun k => k.size + 1) ++ (l.drop i).map (fun k => k.size + 1) := by rw [← List.map_append, List.take_append_drop]
  rw [h, List.sum_append]
  omega
theorem len_le_psum (l : List ByteArray) : l.length ≤ psum l := by
  induction l with
  | nil => exact Nat.le_refl _
  | cons a l ih =>
    unfold psum at ih ⊢
    simp only [List.map_cons, List.sum_cons, List.length_cons]
    omega
def lightSum (a : Ask) : Nat := a.r.data.size + a.key.size + psum a.ks
set_option maxHeartbeats 8000000 in
set_option maxRecDepth 100000 in
theorem light_calls (a : Ask) (w : World) (hk : Ks w a.kA a.ks) (hs : lightSum a ≤ 1099511627776) :
    Calls Tryd.prog 22 #[.agg a.c] w fun e w' => e = .returned (.bool (decide (lightSum a < 1000))) ∧ Below w.heap.size w w' := by
  obtain ⟨lost, key, r, ks, kA, kc, now, ver⟩ := a
  unfold lightSum at hs ⊢
  simp only at hk hs ⊢
  have h1 : (r.data.size : Int) ≤ 1099511627776 := by omega
  have h2 : (key.size : Int) ≤ 1099511627776 := by omega
  have hln : (ks.length : Int) ≤ 1099511627776 := by have := len_le_psum ks; omega
  have HS := Aside0.mk hs
  have HK := Aside0.mk hk
  obtain ⟨W, hW⟩ : ∃ W, W = w.alloc (.cells (Ask.c ⟨lost, key, r, ks, kA, kc, now, ver⟩) 53) := ⟨_, rfl⟩
  have HW := Aside0.mk hW
  have c1 : W.cell? ⟨w.heap.size, 1, none⟩ = some (.string key) := by rw [hW]; exact blk_cell (blk_new w _) 1
  have c10 : W.cell? ⟨w.heap.size, 10, none⟩ = some (.string r.data) := by rw [hW]; exact blk_cell (blk_new w _) 10
  have c3 : W.cell? ⟨w.heap.size, 3, none⟩ = some (.slice kA ks.length kc) := by rw [hW]; exact blk_cell (blk_new w _) 3
  have HB := Aside0.mk (show Below w.heap.size w W by rw [hW]; exact below_alloc (Below.refl _ _) _)
  clear hW hs hk
  simp only [Ask.c]
  go_enter Tryd.func22, Tryd.ntmps22
  go_wp2
  go_loopg [3, 4] ks.length (fun R s3 s4 wr => ∃ i : Nat, i + R = ks.length ∧ s3 = .int .i64 ((r.data.size + key.size + psum (ks.take i) : Nat) : Int) ∧ s4 = .int .i64 (i : Int) ∧ wr = W)
  case atStart =>
    refine ⟨0, by omega, ?_, rfl, HW.out.symm⟩
    rw [List.take_zero]
    show Value.int IntKind.i64 _ = Value.int IntKind.i64 _
    have hz : psum ([] : List ByteArray) = 0 := rfl
    rw [hz]
    congr 1
  case round =>
    obtain ⟨i, hi, rfl, rfl, rfl⟩ := hrel
    have HI := Aside0.mk hi
    obtain ⟨S, hS⟩ : ∃ S : Nat, S = r.data.size + key.size + psum (ks.take i) := ⟨_, rfl⟩
    have HSS := Aside0.mk hS
    have hle := psum_le ks i
    have h3 : (S : Int) ≤ 1099511627776 := by have := HS.out; omega
    rw [← hS]
    clear hS hle
    by_cases hlt : i < ks.length
    · obtain ⟨k, hk⟩ : ∃ k, ks[i]? = some k := ⟨_, List.getElem?_eq_getElem hlt⟩
      obtain ⟨ad, rfl, hc⟩ := HK.out.1 (fun e => by rw [e] at hlt; simp at hlt)
      have ck : wr.cell? (ad.add i) = some (.string k) := pw_cell_below HB.out (hc i k hk)
      have hst := psum_step hk
      have hle := psum_le ks (i + 1)
      have h4 : (S : Int) + (k.size : Int) + 1 ≤ 1099511627776 := by have := HS.out; have := HSS.out; omega
      have h5 : (S : Int) + (k.size : Int) ≤ 1099511627776 := by omega
      have h6 : (k.size : Int) ≤ 1099511627776 := by omega
      have r1 : decide ((i : Int) < (ks.length : Int)) = true := decide_eq_true (by omega)
      have r1' : (i : Int) < (ks.length : Int) := by omega
      have HST := Aside0.mk hst
      clear hi hlt hk hc hst hle
      go_wp2
      go_roundg (ks.length - (i + 1))
      case measure => have := HI.out; omega
      case rel =>
        refine ⟨i + 1, by have := HI.out; omega, ?_, by go_num, rfl⟩
        show Value.int IntKind.i64 _ = Value.int IntKind.i64 _
        congr 1
        have := HST.out
        have := HSS.out
        omega
    · have r1 : decide ((i : Int) < (ks.length : Int)) = false := decide_eq_false (by omega)
      have r1' : ¬ (i : Int) < (ks.length : Int) := by omega
      have HE := Aside0.mk (show i = ks.length by omega)
      clear hi hlt
      go_wp2
      go_ret
      have hd : decide ((S : Int) < 1000) = decide (r.data.size + key.size + psum ks < 1000) := by
        have h7 := HSS.out
        rw [HE.out, List.take_length] at h7
        rw [decide_eq_decide]
        omega
      exact ⟨by rw [hd]; rfl, HB.out⟩
end Go.Proofs.YtepklobkppdliaaDoor.Md
end
section
namespace Go.Proofs.YtepklobkppdliaaDoor.Md
open Go.RowKit Go.Proofs.YtepklobkppdliaaDoorW.PrintWords Go.Proofs.YtepklobkppdliaaDoorW.PrintLast Go.Proofs.YtepklobkppdliaaDoorW.PrintMore Go.Proofs.YtepklobkppdliaaDoor.Lib Go.Proofs.YtepklobkppdliaaDoor.Open
theorem Md.grow {w : World} {g b n m : Nat} {f : ByteArray → Option Ent} (h : Md w g b n f) (hn : n ≤ m) : Md w g b m f := ⟨h.blk, h.mp.mono hn, h.vs⟩
end Go.Proofs.YtepklobkppdliaaDoor.Md
end
