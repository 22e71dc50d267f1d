/- The history: what may be told. The history: may a call stand next? The history: what a call does to an entry. The history: what a get does; what a call does. The history: the set of what was tried. The history: a call next. -/
import Derived.Test.YtepklobkppdliaaDoorVMd7
import Derived.Deep.LoopGhost
import Derived.BigQuiet
import Derived.Test.YtepklobkppdliaaDoorVEv3
import Derived.Test.YtepklobkppdliaaDoorVMd8b
import Derived.DeepKeys4
namespace Go.Proofs.YtepklobkppdliaaDoor.Hs
open Go.RowKit Go.Proofs.YtepklobkppdliaaDoorW.PrintWords Go.Proofs.YtepklobkppdliaaDoorW.PrintLast Go.Proofs.YtepklobkppdliaaDoorW.PrintMore Go.Proofs.YtepklobkppdliaaDoor.Lib Go.Proofs.YtepklobkppdliaaDoor.Open Go.Proofs.YtepklobkppdliaaDoor.Md
/-- A value that is told. -/
structure Fd where
  key : ByteArray
  fl : Int
  val : ByteArray
  cas : Int
def Fd.c (f : Fd) : List Value := [.string f.key, .int .i64 f.fl, .string f.val, .int .i64 f.cas]
theorem fd_len (f : Fd) : f.c.length = 4 := rfl
theorem fd_one (f : Fd) : ∀ u ∈ f.c, u.oneCell' = true := by simp [Fd.c, Value.oneCell']
/-- An answer; its values are apart. -/
structure Aw where
  kind : Int
  gets : Bool
  num : Int
  text : ByteArray
  s0 : Int
  s1 : Int
  s2 : Int
  s3 : Int
def Aw.c (a : Aw) (vv : Value) : Array Value := #[.int .i64 a.kind, vv, .bool a.gets, .int .u64 a.num, .string a.text, .int .i64 a.s0, .int .i64 a.s1, .int .i64 a.s2, .int .i64 a.s3]
/-- An entry of the search. -/
structure En where
  there : Bool
  fl : Int
  val : ByteArray
def En.c (e : En) : Array Value := #[.bool e.there, .int .i64 e.fl, .string e.val]
def plainB (a : Aw) (k : Int) : Bool := a.kind == k && (a.num == 0 && a.text.toList.isEmpty)
theorem aw_one (a : Aw) (vv : Value) (hv : vv.oneCell' = true) : (a.c vv).all (·.oneCell') = true := by
  unfold Value.oneCell' at hv
  simp [Aw.c, Value.oneCell', hv]
theorem en_one (e : En) : e.c.all (·.oneCell') = true := by simp [En.c, Value.oneCell']
set_option maxHeartbeats 4000000 in
set_option maxRecDepth 100000 in
theorem plain_calls (a : Aw) (vv : Value) (k : Int) (w : World) : Calls Tryd.prog 89 #[.agg (a.c vv), .int .i64 k] w fun e w' => e = .returned (.bool (plainB a k)) ∧ Below w.heap.size w w' := by
  unfold plainB
  simp only [Aw.c]
  cases h1 : (a.kind == k)
  · go_enter Tryd.func89, Tryd.ntmps89
    go_wp2
    go_ret
    exact ⟨by simp, below_alloc (Below.refl _ _) _⟩
  · cases h2 : (a.num == 0)
    · go_enter Tryd.func89, Tryd.ntmps89
      go_wp2
      go_ret
      exact ⟨by simp, below_alloc (Below.refl _ _) _⟩
    · cases h3 : a.text.toList.isEmpty
      · go_enter Tryd.func89, Tryd.ntmps89
        go_wp2
        go_ret
        exact ⟨by simp, below_alloc (Below.refl _ _) _⟩
      · go_enter Tryd.func89, Tryd.ntmps89
        go_wp2
        go_ret
        exact ⟨by simp, below_alloc (Below.refl _ _) _⟩
/-- May this value have been told of the entry? -/
def okV (key : ByteArray) (e : En) (f : Fd) : Bool := !(f.key.toList == key.toList) || (e.there && (decide (f.fl = e.fl) && (f.val.toList == e.val.toList)))
def anyK (key : ByteArray) (vs : List Fd) : Bool := vs.any (fun f => f.key.toList == key.toList)
def toldB (key : ByteArray) (a : Aw) (vs : List Fd) (e : En) : Bool := vs.all (okV key e) && (plainB a 1 && (anyK key vs == e.there))
theorem okV_no1 {key : ByteArray} {e : En} {f : Fd} (h : (!f.key.toList == key.toList) = false) (h1 : ¬ e.there = true) : okV key e f = false := by
  unfold okV
  rw [h, Bool.eq_false_iff.2 h1]
  rfl
theorem okV_no2 {key : ByteArray} {e : En} {f : Fd} (h : (!f.key.toList == key.toList) = false) (h1 : ¬ f.fl = e.fl) : okV key e f = false := by
  unfold okV
  rw [h, decide_eq_false h1]
  simp
theorem okV_no3 {key : ByteArray} {e : En} {f : Fd} (h : (!f.key.toList == key.toList) = false) (h1 : (!f.val.toList == e.val.toList) = true) : okV key e f = false := by
  unfold okV
  rw [h, show (f.val.toList == e.val.toList) = false by simpa using h1]
  simp
theorem okV_yes {key : ByteArray} {e : En} {f : Fd} (h1 : e.there = true) (h2 : f.fl = e.fl) (h3 : (!f.val.toList == e.val.toList) = false) : okV key e f = true := by
  unfold okV
  rw [h1, decide_eq_true h2, show (f.val.toList == e.val.toList) = true by simpa using h3]
  simp
/-- The loop of told: i values were looked at. -/
def ToldAt (w0 : World) (key : ByteArray) (a : Aw) (vs : List Fd) (A : Option Addr) (cap : Nat) (e : En) (R : Nat) (s7 s13 : Value) (wr : World) : Prop :=
  ∃ i : Nat, i + R = vs.length ∧ s13 = .int .i64 (i : Int) ∧ s7 = .bool (anyK key (vs.take i)) ∧ (vs.take i).all (okV key e) = true ∧
    wr.heap[w0.heap.size]? = some (.cells (a.c (.slice A vs.length cap)) 32 (0, 0)) ∧ wr.heap[w0.heap.size + 1]? = some (.cells e.c 104 (0, 0)) ∧ Below w0.heap.size w0 wr
theorem told_no {key : ByteArray} {a : Aw} {vs : List Fd} {e : En} {i : Nat} {f : Fd} (hf : vs[i]? = some f) (h : okV key e f = false) : toldB key a vs e = false := by
  have : vs.all (okV key e) = false := by
    rw [List.all_eq_false]
    exact ⟨f, List.mem_of_getElem? hf, by rw [h]; decide⟩
  unfold toldB
  rw [this, Bool.false_and]
theorem told_next {key : ByteArray} {vs : List Fd} {e : En} {i : Nat} {f : Fd} (hf : vs[i]? = some f) (h : okV key e f = true) (ha : (vs.take i).all (okV key e) = true) : (vs.take (i + 1)).all (okV key e) = true := by
  rw [List.take_add_one, hf, Option.toList_some, List.all_append, ha, List.all_cons, h]
  rfl
theorem any_next {key : ByteArray} {vs : List Fd} {i : Nat} {f : Fd} (hf : vs[i]? = some f) : anyK key (vs.take (i + 1)) = (anyK key (vs.take i) || (f.key.toList == key.toList)) := by
  unfold anyK
  rw [List.take_add_one, hf, Option.toList_some, List.any_append, List.any_cons, List.any_nil, Bool.or_false]
theorem ToldAt.step {w0 wr : World} {key : ByteArray} {a : Aw} {vs : List Fd} {A : Option Addr} {cap : Nat} {e : En} {i gk : Nat} {f : Fd} (hi : i + gk = vs.length) (hf : vs[i]? = some f) (h : okV key e f = true) (ha : (vs.take i).all (okV key e) = true)
    (h4 : wr.heap[w0.heap.size]? = some (.cells (a.c (.slice A vs.length cap)) 32 (0, 0))) (h5 : wr.heap[w0.heap.size + 1]? = some (.cells e.c 104 (0, 0))) (hB : Below w0.heap.size w0 wr) (q : Bool) (hq : q = (anyK key (vs.take i) || (f.key.toList == key.toList))) (j : Int) (hj : j = (i : Int) + 1) (w1 : World) (hb : Below wr.heap.size wr w1) :
    ToldAt w0 key a vs A cap e (vs.length - (i + 1)) (.bool q) (.int .i64 j) w1 := by
  have hl := (List.getElem?_eq_some_iff.1 hf).1
  refine ⟨i + 1, by omega, by rw [hj]; rfl, by rw [hq, any_next hf], told_next hf h ha, (hb.block _ (blk_lt h4)).trans h4, (hb.block _ (blk_lt h5)).trans h5, below_step hB hb⟩
set_option maxHeartbeats 8000000 in
set_option maxRecDepth 100000 in
theorem told_there (g : Nat) (key : ByteArray) (a : Aw) (vs : List Fd) (A : Option Addr) (cap : Nat) (fl : Int) (val : ByteArray) (w : World) (hc : w.cell? ⟨g, 0, none⟩ = some (.string key)) (hv : Arg Fd.c w A vs.length vs) :
    Calls Tryd.prog 90 #[.pointer (some ⟨g, 0, none⟩), .agg (a.c (.slice A vs.length cap)), .agg (En.c ⟨true, fl, val⟩)] w fun e_ w' => e_ = .returned (.bool (toldB key a vs ⟨true, fl, val⟩)) ∧ Below w.heap.size w w' := by
  have HC := Aside0.mk hc
  have HV := Aside0.mk hv
  obtain ⟨N, hN⟩ : ∃ N, N = vs.length := ⟨_, rfl⟩
  have HN := Aside0.mk hN
  have hl' : (N : Int) ≤ 9223372036854775807 := by have := hv.2.1; omega
  rw [← hN]
  clear hc hv hN
  simp only [Aw.c, En.c]
  go_enter Tryd.func90, Tryd.ntmps90
  go_wp2
  go_loopg [7, 13] N (fun R s7 s13 wr => ToldAt w key a vs A cap ⟨true, fl, val⟩ R s7 s13 wr)
  case atStart =>
    rw [HN.out]
    have s1 : (w.alloc (.cells (a.c (.slice A vs.length cap)) 32)).heap.size = w.heap.size + 1 := by simp
    refine ⟨0, by omega, rfl, rfl, rfl, blk_alloc (blk_new w (.cells (a.c (.slice A vs.length cap)) 32)) _, ?_, below_alloc (below_alloc (Below.refl _ _) _) _⟩
    rw [← s1]
    exact blk_new (w.alloc (.cells (a.c (.slice A vs.length cap)) 32)) (.cells (En.c ⟨true, fl, val⟩) 104)
  case round =>
    obtain ⟨i, hi, rfl, rfl, hall, b4, b5, hB⟩ := hrel
    have HI := Aside0.mk hi
    have HA := Aside0.mk hall
    have B4 := Aside0.mk b4
    have B5 := Aside0.mk b5
    have HB := Aside0.mk hB
    obtain ⟨P, hP⟩ : ∃ P, P = anyK key (vs.take i) := ⟨_, rfl⟩
    have HP := Aside0.mk hP
    rw [← hP]
    by_cases hlt : i < N
    · obtain ⟨f, hf⟩ : ∃ f, vs[i]? = some f := ⟨_, List.getElem?_eq_getElem (by have := HN.out; omega)⟩
      obtain ⟨b, o, rfl, hr⟩ := (HV.out.below HB.out).at_ fd_len i f hf
      have HF := Aside0.mk hf
      have HR := Aside0.mk hr
      have r1 : decide ((i : Int) < (N : Int)) = true := decide_eq_true (by omega)
      have r2 : (i : Int) < (N : Int) := by omega
      have c0 : ∀ o, (wr.alloc o).cell? ⟨g, 0, none⟩ = some (.string key) := fun o => pw_cell_below (below_step HB.out (below_alloc (Below.refl _ _) o)) HC.out
      have e0 : ∀ o, (wr.alloc o).cell? ⟨w.heap.size + 1, 0, none⟩ = some (.bool true) := fun o => blk_cell (blk_alloc B5.out o) 0
      have e1 : ∀ o, (wr.alloc o).cell? ⟨w.heap.size + 1, 1, none⟩ = some (.int .i64 fl) := fun o => blk_cell (blk_alloc B5.out o) 1
      have e2 : ∀ o, (wr.alloc o).cell? ⟨w.heap.size + 1, 2, none⟩ = some (.string val) := fun o => blk_cell (blk_alloc B5.out o) 2
      have HBn : ∀ o n, Aside0 (Below wr.heap.size wr ((wr.alloc o).drewN n)) := fun o n => ⟨pw_below_drewN (below_alloc (Below.refl _ _) o) n⟩
      clear hi hall b4 b5 hB hP hf hr hlt
      cases hk : (f.key.toList == key.toList)
      · have hk2 : (!f.key.toList == key.toList) = true := by rw [hk]; rfl
        have HO : Aside0 (okV key ⟨true, fl, val⟩ f = true) := ⟨by unfold okV; rw [hk]; rfl⟩
        have HQ : Aside0 (P = (anyK key (vs.take i) || (f.key.toList == key.toList))) := ⟨by rw [hk, HP.out, Bool.or_false]⟩
        go_wp2_with (refine gate_ (.load 35 (.tmp 15)) rfl ?_; refine ev_load_mid (.load 35 (.tmp 15)) rfl rfl 35 (.tmp 15) rfl b (o + i * 4) ?x1 f.c _ HR.out Tryd.underlying35 rfl ?x3 ?_; (case x1 => rfl); (case x3 => kernel_rfl); simp only [Fd.c])
        go_quiet (fail)
        go_wp2
        go_roundg (vs.length - (i + 1))
        case measure => have := HI.out; have := HN.out; omega
        case rel => exact ToldAt.step HI.out HF.out HO.out HA.out B4.out B5.out HB.out _ HQ.out _ rfl _ (HBn _ _).out
      · have hk2 : (!f.key.toList == key.toList) = false := by rw [hk]; rfl
        have HQ : Aside0 (true = (anyK key (vs.take i) || (f.key.toList == key.toList))) := ⟨by rw [hk, Bool.or_true]⟩
        go_wp2_with (refine gate_ (.load 35 (.tmp 15)) rfl ?_; refine ev_load_mid (.load 35 (.tmp 15)) rfl rfl 35 (.tmp 15) rfl b (o + i * 4) ?x1 f.c _ HR.out Tryd.underlying35 rfl ?x3 ?_; (case x1 => rfl); (case x3 => kernel_rfl); simp only [Fd.c])
        go_quiet (fail)
        go_wp2
        · have h2 : (!f.val.toList == val.toList) = true := by assumption
          go_ret
          exact ⟨by rw [told_no HF.out (okV_no3 hk2 h2)]; rfl, below_step HB.out (HBn _ _).out⟩
        · have h0 : f.fl = fl := by assumption
          have h2 : (!f.val.toList == val.toList) = false := by assumption
          have HO : Aside0 (okV key ⟨true, fl, val⟩ f = true) := ⟨okV_yes rfl h0 h2⟩
          go_roundg (vs.length - (i + 1))
          case measure => have := HI.out; have := HN.out; omega
          case rel => exact ToldAt.step HI.out HF.out HO.out HA.out B4.out B5.out HB.out _ HQ.out _ rfl _ (HBn _ _).out
        · have h0 : ¬ f.fl = fl := by assumption
          go_ret
          exact ⟨by rw [told_no HF.out (okV_no2 hk2 h0)]; rfl, below_step HB.out (HBn _ _).out⟩
    · obtain rfl : i = N := by have := HN.out; omega
      have r1 : decide ((i : Int) < (i : Int)) = false := decide_eq_false (by omega)
      have HE : Aside0 (toldB key a vs ⟨true, fl, val⟩ = (plainB a 1 && (P == true))) := ⟨by
        have h1 := HA.out
        rw [List.take_of_length_le (by have := HN.out; omega)] at h1
        have h2 := HP.out
        rw [List.take_of_length_le (by have := HN.out; omega)] at h2
        unfold toldB
        rw [h1, ← h2, Bool.true_and]⟩
      clear hi hall b4 b5 hB hP hlt
      cases hp : plainB a 1
      · have HPl := Aside0.mk hp
        rw [hp, Bool.false_and] at HE
        clear hp
        go_wp2_with (first | (refine gate_ (.load 32 (.tmp 4)) rfl ?_; refine ev_load_row (.load 32 (.tmp 4)) rfl rfl 32 (.tmp 4) rfl w.heap.size rfl 32 (a.c (.slice A vs.length cap)) _ B4.out Tryd.underlying32 rfl (by kernel_rfl) ?_) | (go_at_call 89; refine (plain_calls a _ 1 _).mono ?_; rintro e_1 w_1 ⟨rfl, hb⟩; rw [HPl.out]; have HB1 := Aside0.mk hb; clear hb))
        go_ret
        exact ⟨by rw [HE.out]; first | rfl | (cases P <;> rfl), below_step HB.out HB1.out⟩
      · have HPl := Aside0.mk hp
        rw [hp, Bool.true_and] at HE
        clear hp
        go_wp2_with (first | (refine gate_ (.load 32 (.tmp 4)) rfl ?_; refine ev_load_row (.load 32 (.tmp 4)) rfl rfl 32 (.tmp 4) rfl w.heap.size rfl 32 (a.c (.slice A vs.length cap)) _ B4.out Tryd.underlying32 rfl (by kernel_rfl) ?_) | (go_at_call 89; refine (plain_calls a _ 1 _).mono ?_; rintro e_1 w_1 ⟨rfl, hb⟩; rw [HPl.out]; have e0 : w_1.cell? ⟨w.heap.size + 1, 0, none⟩ = some (.bool true) := blk_cell ((hb.block _ (blk_lt B5.out)).trans B5.out) 0; have HB1 := Aside0.mk hb; clear hb))
        go_ret
        exact ⟨by rw [HE.out]; first | rfl | (cases P <;> rfl), below_step HB.out HB1.out⟩
set_option maxHeartbeats 8000000 in
set_option maxRecDepth 100000 in
theorem told_gone (g : Nat) (key : ByteArray) (a : Aw) (vs : List Fd) (A : Option Addr) (cap : Nat) (fl : Int) (val : ByteArray) (w : World) (hc : w.cell? ⟨g, 0, none⟩ = some (.string key)) (hv : Arg Fd.c w A vs.length vs) :
    Calls Tryd.prog 90 #[.pointer (some ⟨g, 0, none⟩), .agg (a.c (.slice A vs.length cap)), .agg (En.c ⟨false, fl, val⟩)] w fun e_ w' => e_ = .returned (.bool (toldB key a vs ⟨false, fl, val⟩)) ∧ Below w.heap.size w w' := by
  have HC := Aside0.mk hc
  have HV := Aside0.mk hv
  obtain ⟨N, hN⟩ : ∃ N, N = vs.length := ⟨_, rfl⟩
  have HN := Aside0.mk hN
  have hl' : (N : Int) ≤ 9223372036854775807 := by have := hv.2.1; omega
  rw [← hN]
  clear hc hv hN
  simp only [Aw.c, En.c]
  go_enter Tryd.func90, Tryd.ntmps90
  go_wp2
  go_loopg [7, 13] N (fun R s7 s13 wr => ToldAt w key a vs A cap ⟨false, fl, val⟩ R s7 s13 wr)
  case atStart =>
    rw [HN.out]
    have s1 : (w.alloc (.cells (a.c (.slice A vs.length cap)) 32)).heap.size = w.heap.size + 1 := by simp
    refine ⟨0, by omega, rfl, rfl, rfl, blk_alloc (blk_new w (.cells (a.c (.slice A vs.length cap)) 32)) _, ?_, below_alloc (below_alloc (Below.refl _ _) _) _⟩
    rw [← s1]
    exact blk_new (w.alloc (.cells (a.c (.slice A vs.length cap)) 32)) (.cells (En.c ⟨false, fl, val⟩) 104)
  case round =>
    obtain ⟨i, hi, rfl, rfl, hall, b4, b5, hB⟩ := hrel
    have HI := Aside0.mk hi
    have HA := Aside0.mk hall
    have B4 := Aside0.mk b4
    have B5 := Aside0.mk b5
    have HB := Aside0.mk hB
    obtain ⟨P, hP⟩ : ∃ P, P = anyK key (vs.take i) := ⟨_, rfl⟩
    have HP := Aside0.mk hP
    rw [← hP]
    by_cases hlt : i < N
    · obtain ⟨f, hf⟩ : ∃ f, vs[i]? = some f := ⟨_, List.getElem?_eq_getElem (by have := HN.out; omega)⟩
      obtain ⟨b, o, rfl, hr⟩ := (HV.out.below HB.out).at_ fd_len i f hf
      have HF := Aside0.mk hf
      have HR := Aside0.mk hr
      have r1 : decide ((i : Int) < (N : Int)) = true := decide_eq_true (by omega)
      have r2 : (i : Int) < (N : Int) := by omega
      have c0 : ∀ o, (wr.alloc o).cell? ⟨g, 0, none⟩ = some (.string key) := fun o => pw_cell_below (below_step HB.out (below_alloc (Below.refl _ _) o)) HC.out
      have e0 : ∀ o, (wr.alloc o).cell? ⟨w.heap.size + 1, 0, none⟩ = some (.bool false) := fun o => blk_cell (blk_alloc B5.out o) 0
      have e1 : ∀ o, (wr.alloc o).cell? ⟨w.heap.size + 1, 1, none⟩ = some (.int .i64 fl) := fun o => blk_cell (blk_alloc B5.out o) 1
      have e2 : ∀ o, (wr.alloc o).cell? ⟨w.heap.size + 1, 2, none⟩ = some (.string val) := fun o => blk_cell (blk_alloc B5.out o) 2
      have HBn : ∀ o n, Aside0 (Below wr.heap.size wr ((wr.alloc o).drewN n)) := fun o n => ⟨pw_below_drewN (below_alloc (Below.refl _ _) o) n⟩
      clear hi hall b4 b5 hB hP hf hr hlt
      cases hk : (f.key.toList == key.toList)
      · have hk2 : (!f.key.toList == key.toList) = true := by rw [hk]; rfl
        have HO : Aside0 (okV key ⟨false, fl, val⟩ f = true) := ⟨by unfold okV; rw [hk]; rfl⟩
        have HQ : Aside0 (P = (anyK key (vs.take i) || (f.key.toList == key.toList))) := ⟨by rw [hk, HP.out, Bool.or_false]⟩
        go_wp2_with (refine gate_ (.load 35 (.tmp 15)) rfl ?_; refine ev_load_mid (.load 35 (.tmp 15)) rfl rfl 35 (.tmp 15) rfl b (o + i * 4) ?x1 f.c _ HR.out Tryd.underlying35 rfl ?x3 ?_; (case x1 => rfl); (case x3 => kernel_rfl); simp only [Fd.c])
        go_quiet (fail)
        go_wp2
        go_roundg (vs.length - (i + 1))
        case measure => have := HI.out; have := HN.out; omega
        case rel => exact ToldAt.step HI.out HF.out HO.out HA.out B4.out B5.out HB.out _ HQ.out _ rfl _ (HBn _ _).out
      · have hk2 : (!f.key.toList == key.toList) = false := by rw [hk]; rfl
        have HQ : Aside0 (true = (anyK key (vs.take i) || (f.key.toList == key.toList))) := ⟨by rw [hk, Bool.or_true]⟩
        go_wp2_with (refine gate_ (.load 35 (.tmp 15)) rfl ?_; refine ev_load_mid (.load 35 (.tmp 15)) rfl rfl 35 (.tmp 15) rfl b (o + i * 4) ?x1 f.c _ HR.out Tryd.underlying35 rfl ?x3 ?_; (case x1 => rfl); (case x3 => kernel_rfl); simp only [Fd.c])
        go_quiet (fail)
        go_wp2
        go_ret
        exact ⟨by rw [told_no HF.out (okV_no1 hk2 (fun h => Bool.noConfusion h))]; rfl, below_step HB.out (HBn _ _).out⟩
    · obtain rfl : i = N := by have := HN.out; omega
      have r1 : decide ((i : Int) < (i : Int)) = false := decide_eq_false (by omega)
      have HE : Aside0 (toldB key a vs ⟨false, fl, val⟩ = (plainB a 1 && (P == false))) := ⟨by
        have h1 := HA.out
        rw [List.take_of_length_le (by have := HN.out; omega)] at h1
        have h2 := HP.out
        rw [List.take_of_length_le (by have := HN.out; omega)] at h2
        unfold toldB
        rw [h1, ← h2, Bool.true_and]⟩
      clear hi hall b4 b5 hB hP hlt
      cases hp : plainB a 1
      · have HPl := Aside0.mk hp
        rw [hp, Bool.false_and] at HE
        clear hp
        go_wp2_with (first | (refine gate_ (.load 32 (.tmp 4)) rfl ?_; refine ev_load_row (.load 32 (.tmp 4)) rfl rfl 32 (.tmp 4) rfl w.heap.size rfl 32 (a.c (.slice A vs.length cap)) _ B4.out Tryd.underlying32 rfl (by kernel_rfl) ?_) | (go_at_call 89; refine (plain_calls a _ 1 _).mono ?_; rintro e_1 w_1 ⟨rfl, hb⟩; rw [HPl.out]; have HB1 := Aside0.mk hb; clear hb))
        go_ret
        exact ⟨by rw [HE.out]; first | rfl | (cases P <;> rfl), below_step HB.out HB1.out⟩
      · have HPl := Aside0.mk hp
        rw [hp, Bool.true_and] at HE
        clear hp
        go_wp2_with (first | (refine gate_ (.load 32 (.tmp 4)) rfl ?_; refine ev_load_row (.load 32 (.tmp 4)) rfl rfl 32 (.tmp 4) rfl w.heap.size rfl 32 (a.c (.slice A vs.length cap)) _ B4.out Tryd.underlying32 rfl (by kernel_rfl) ?_) | (go_at_call 89; refine (plain_calls a _ 1 _).mono ?_; rintro e_1 w_1 ⟨rfl, hb⟩; rw [HPl.out]; have e0 : w_1.cell? ⟨w.heap.size + 1, 0, none⟩ = some (.bool false) := blk_cell ((hb.block _ (blk_lt B5.out)).trans B5.out) 0; have HB1 := Aside0.mk hb; clear hb))
        go_ret
        exact ⟨by rw [HE.out]; first | rfl | (cases P <;> rfl), below_step HB.out HB1.out⟩
theorem told_calls (g : Nat) (key : ByteArray) (a : Aw) (vs : List Fd) (A : Option Addr) (cap : Nat) (e : En) (w : World) (hc : w.cell? ⟨g, 0, none⟩ = some (.string key)) (hv : Arg Fd.c w A vs.length vs) :
    Calls Tryd.prog 90 #[.pointer (some ⟨g, 0, none⟩), .agg (a.c (.slice A vs.length cap)), .agg e.c] w fun e_ w' => e_ = .returned (.bool (toldB key a vs e)) ∧ Below w.heap.size w w' := by
  obtain ⟨th, fl, val⟩ := e
  cases th
  · exact told_gone g key a vs A cap fl val w hc hv
  · exact told_there g key a vs A cap fl val w hc hv
end Go.Proofs.YtepklobkppdliaaDoor.Hs
namespace Go.Proofs.YtepklobkppdliaaDoor.Hs
open Go.RowKit Go.Proofs.YtepklobkppdliaaDoorW.PrintWords Go.Proofs.YtepklobkppdliaaDoorW.PrintLast Go.Proofs.YtepklobkppdliaaDoorW.PrintMore Go.Proofs.YtepklobkppdliaaDoor.Lib Go.Proofs.YtepklobkppdliaaDoor.Open Go.Proofs.YtepklobkppdliaaDoor.Md
/-- A call of a key, as the search keeps it. -/
structure Opn where
  fr : Int
  ti : Int
  r : Rq
  kv : Value
  a : Aw
  vA : Option Addr
  vc : Nat
  vs : List Fd
def Opn.c (o : Opn) : List Value := [.int .i64 o.fr, .int .i64 o.ti, .int .i64 o.r.verb, o.kv, .int .i64 o.r.fl, .int .i64 o.r.exp, .int .i64 o.r.bytes, .int .i64 o.r.cas, .int .u64 o.r.delta, .bool o.r.quiet, .string o.r.data,
  .int .i64 o.a.kind, .slice o.vA o.vs.length o.vc, .bool o.a.gets, .int .u64 o.a.num, .string o.a.text, .int .i64 o.a.s0, .int .i64 o.a.s1, .int .i64 o.a.s2, .int .i64 o.a.s3]
theorem op_len (o : Opn) : o.c.length = 20 := rfl
def Z97 : Array Value := #[.int .i64 0, .int .i64 0, .int .i64 0, .slice none 0 0, .int .i64 0, .int .i64 0, .int .i64 0, .int .i64 0, .int .u64 0, .bool false, .string ⟨#[]⟩, .int .i64 0, .slice none 0 0, .bool false, .int .u64 0, .string ⟨#[]⟩, .int .i64 0, .int .i64 0, .int .i64 0, .int .i64 0]
theorem op_one (o : Opn) (h : o.kv.oneCell' = true) : o.c.toArray.all (·.oneCell') = true := by
  unfold Value.oneCell' at h
  simp [Opn.c, Value.oneCell', h]
/-- A new block, written whole at once. -/
theorem fresh_blk {w w1 : World} {z : Array Value} {t : TypeId} (hm : Mod (fun q => q = w.heap.size) (w.alloc (.cells z t (0, 0))) w1) : Below w.heap.size w w1 :=
  hm.after (below_alloc (Below.refl _ _) _) (by simp) (fun q hq => Nat.le_of_eq hq.symm)
/-- A search, but its set. -/
structure Sq (w : World) (g b : Nat) (key : ByteArray) (A : Option Addr) (cap : Nat) (ops : List Opn) : Prop where
  blk : w.heap[g]? = some (.cells #[.string key, .slice A ops.length cap, .map (some b)] 101 (0, 0))
  arg : Arg Opn.c w A ops.length ops
  vals : ∀ o ∈ ops, Arg Fd.c w o.vA o.vs.length o.vs
  kvs : ∀ o ∈ ops, o.kv.oneCell' = true
theorem Sq.below {w W : World} {g b : Nat} {key : ByteArray} {A : Option Addr} {cap : Nat} {ops : List Opn} (h : Sq w g b key A cap ops) (hb : Below w.heap.size w W) : Sq W g b key A cap ops :=
  ⟨(hb.block _ (blk_lt h.blk)).trans h.blk, h.arg.below hb, fun o ho => (h.vals o ho).below hb, h.kvs⟩
theorem cell_ne_map {w : World} {p : Addr} {v : Value} {b : Nat} {es : Array MapEntry} {c : Nat} (h : w.cell? p = some v) (hb : w.heap[b]? = some (.map es c)) : p.block ≠ b := by
  intro e
  unfold World.cell? at h
  rw [e, hb] at h
  split at h <;> simp_all
theorem cell_mod {w W : World} {p : Addr} {v : Value} {b : Nat} {es : Array MapEntry} {c : Nat} (h : w.cell? p = some v) (hb : w.heap[b]? = some (.map es c)) (hm : Mod (fun q => q = b) w W) : W.cell? p = some v := by
  have h1 := hm.block p.block (World.block_lt_of_cell? _ _ h) (cell_ne_map h hb)
  rw [← h]
  unfold World.cell?
  rw [h1]
theorem arg_mod {α : Type} {cl : α → List Value} {w W : World} {A : Option Addr} {n : Nat} {xs : List α} {b : Nat} {es : Array MapEntry} {c : Nat} (h : Arg cl w A n xs) (hb : w.heap[b]? = some (.map es c)) (hm : Mod (fun q => q = b) w W) : Arg cl W A n xs :=
  ⟨h.1, h.2.1, fun hn => by
    obtain ⟨q, o, e, hr⟩ := h.2.2 hn
    exact ⟨q, o, e, fun j v hv => cell_mod (hr j v hv) hb hm⟩⟩
theorem Sq.mod {w W : World} {g b : Nat} {key : ByteArray} {A : Option Addr} {cap : Nat} {ops : List Opn} (h : Sq w g b key A cap ops) {es : Array MapEntry} {c : Nat} (hb : w.heap[b]? = some (.map es c)) (hm : Mod (fun q => q = b) w W) : Sq W g b key A cap ops :=
  ⟨hm.blk h.blk (fun e => by have h1 := h.blk; rw [e, hb] at h1; cases h1), arg_mod h.arg hb hm, fun o ho => arg_mod (h.vals o ho) hb hm, h.kvs⟩
/-- May this call stand behind those that are done? -/
def blocks (d : Nat) (x : Int) (k : Nat) (o : Opn) : Bool := !d.testBit k && (decide (0 ≤ o.ti) && decide (o.ti < x))
def mayB (ops : List Opn) (i d : Nat) : Bool := !d.testBit i && (ops.zipIdx.all (fun p => !blocks d ((ops[i]?.map (·.fr)).getD 0) p.2 p.1))
theorem bit_at : ∀ d < 1024, ∀ i < 10, bits BinOp.and IntKind.i64 ((d : Nat) / 2 ^ i : Int) 1 = if d.testBit i then 1 else 0 := by decide +kernel
theorem may_no {ops : List Opn} {i d k : Nat} {x o : Opn} (hx : ops[i]? = some x) (hk : ops[k]? = some o) (hb : blocks d x.fr k o = true) : mayB ops i d = false := by
  have h1 : ops.zipIdx.all (fun p => !blocks d ((ops[i]?.map (·.fr)).getD 0) p.2 p.1) = false := by
    rw [List.all_eq_false]
    refine ⟨(o, k), List.mem_of_getElem? (i := k) (by rw [List.getElem?_zipIdx, hk]; simp), ?_⟩
    rw [hx]
    simp [hb]
  unfold mayB
  rw [h1, Bool.and_false]
theorem may_yes {ops : List Opn} {i d : Nat} {x : Opn} (hx : ops[i]? = some x) (h0 : d.testBit i = false) (h : ∀ k o, ops[k]? = some o → blocks d x.fr k o = false) : mayB ops i d = true := by
  unfold mayB
  rw [h0, hx]
  simp only [Bool.not_false, Bool.true_and, List.all_eq_true]
  intro p hp
  obtain ⟨k, hk, e⟩ := List.mem_iff_getElem.1 hp
  have h1 : ops[p.2]? = some p.1 := by
    have h2 := List.getElem?_eq_getElem hk
    rw [e, List.getElem?_zipIdx] at h2
    obtain ⟨y, hy, e2⟩ := Option.map_eq_some_iff.1 h2
    rw [← e2]
    simpa using hy
  have h3 := h _ _ h1
  simp [h3]
/-- The loop of may: k calls were looked at. -/
def MayAt (w0 : World) (ops : List Opn) (d : Nat) (x : Int) (R : Nat) (s : Value) (wr : World) : Prop :=
  ∃ k : Nat, k + R = ops.length ∧ s = .int .i64 (k : Int) ∧ (∀ j o, j < k → ops[j]? = some o → blocks d x j o = false) ∧ Below w0.heap.size w0 wr
theorem MayAt.step {w0 wr w1 : World} {ops : List Opn} {d k gk : Nat} {x : Int} {o : Opn} (hk : k + gk = ops.length) (ho : ops[k]? = some o) (hall : ∀ j o, j < k → ops[j]? = some o → blocks d x j o = false) (hB : Below w0.heap.size w0 wr) (h : blocks d x k o = false) (j : Int) (hj : j = (k : Int) + 1) (hb : Below wr.heap.size wr w1) :
    MayAt w0 ops d x (ops.length - (k + 1)) (.int .i64 j) w1 := by
  have hl := (List.getElem?_eq_some_iff.1 ho).1
  refine ⟨k + 1, by omega, by rw [hj]; rfl, fun j' o' hlt hj' => ?_, below_step hB hb⟩
  by_cases e : j' = k
  · subst e
    rw [ho] at hj'
    obtain rfl := Option.some.inj hj'
    exact h
  · exact hall j' o' (by omega) hj'
set_option maxHeartbeats 16000000 in
set_option maxRecDepth 100000 in
theorem may_calls (g b : Nat) (key : ByteArray) (A : Option Addr) (cap : Nat) (ops : List Opn) (i d : Nat) (x : Opn) (w : World) (hS : Sq w g b key A cap ops) (hx : ops[i]? = some x) (hl : ops.length ≤ 10) (hd : d < 1024) :
    Calls Tryd.prog 64 #[.pointer (some ⟨g, 0, none⟩), .int .i64 (i : Int), .int .i64 (d : Int)] w fun e_ w' => e_ = .returned (.bool (mayB ops i d)) ∧ Below w.heap.size w w' := by
  have HS := Aside0.mk hS
  have HX := Aside0.mk hx
  have hi : i < 10 := by have := (List.getElem?_eq_some_iff.1 hx).1; omega
  have hi1 : (i : Int) < 10 := by omega
  have hd1 : (d : Int) < 1024 := by omega
  have hbit := bit_at d hd i hi
  have HD := Aside0.mk hd
  have HI := Aside0.mk hi
  obtain ⟨N, hN⟩ : ∃ N, N = ops.length := ⟨_, rfl⟩
  have HN := Aside0.mk hN
  have hl1 : (N : Int) ≤ 10 := by omega
  have hiN : i < N := by have := (List.getElem?_eq_some_iff.1 hx).1; omega
  have hiN1 : (i : Int) < (N : Int) := by omega
  have c1 : w.cell? ⟨g, 1, none⟩ = some (.slice A N cap) := by rw [hN]; exact blk_cell hS.blk 1
  clear hS hx hl hd hi hN
  cases ht : d.testBit i
  · rw [ht] at hbit
    simp only [Bool.false_eq_true, if_false] at hbit
    have HT := Aside0.mk ht
    have HBT := Aside0.mk hbit
    have hb1 : (bits BinOp.and IntKind.i64 ((d : Int) / 2 ^ i) 1 == 1) = false := by rw [hbit]; rfl
    clear hbit ht
    go_enter Tryd.func64, Tryd.ntmps64
    go_wp2
    go_loopg [20] N (fun R s wr => MayAt w ops d x.fr R s wr)
    case atStart => exact ⟨0, by rw [HN.out]; omega, rfl, fun j o hj => absurd hj (Nat.not_lt_zero _), Below.refl _ _⟩
    case round =>
      obtain ⟨k, hk, rfl, hall, hB⟩ := hrel
      have HK := Aside0.mk hk
      have HA := Aside0.mk hall
      have HB := Aside0.mk hB
      by_cases hlt : k < N
      · obtain ⟨y, hy⟩ : ∃ y, ops[k]? = some y := ⟨_, List.getElem?_eq_getElem (by have := HN.out; omega)⟩
        obtain ⟨q, o, rfl, hr⟩ := (HS.out.arg.below HB.out).at_ op_len k y hy
        have hr2 : wr.rangeAt q (o + i * 20) x.c := by
          obtain ⟨q2, o2, e2, h2⟩ := (HS.out.arg.below HB.out).at_ op_len i x HX.out
          simp only [Option.some.injEq, Addr.mk.injEq, and_true] at e2
          obtain ⟨rfl, rfl⟩ := e2
          exact h2
        have cx : wr.cell? ⟨q, o + i * 20, none⟩ = some (.int .i64 x.fr) := hr2 0 _ rfl
        have HY1 := Aside0.mk (op_one y (HS.out.kvs y (List.mem_of_getElem? hy)))
        have HY := Aside0.mk hy
        have HR := Aside0.mk hr
        have r1 : decide ((k : Int) < (N : Int)) = true := decide_eq_true (by omega)
        have r2 : (k : Int) < (N : Int) := by omega
        have cs : wr.cell? ⟨g, 1, none⟩ = some (.slice (some ⟨q, o, none⟩) N cap) := pw_cell_below HB.out c1
        have hk10 : (k : Int) < 10 := by omega
        have HBn : ∀ o n, Aside0 (Below wr.heap.size wr ((wr.alloc o).drewN n)) := fun o n => ⟨pw_below_drewN (below_alloc (Below.refl _ _) o) n⟩
        have hbk := bit_at d HD.out k (by omega)
        clear hk hall hB hy hr hr2 hlt
        cases hb : blocks d x.fr k y
        · have HBL := Aside0.mk hb
          have HG : (d.testBit k = true) ∨ (d.testBit k = false ∧ ¬ 0 ≤ y.ti) ∨ (d.testBit k = false ∧ 0 ≤ y.ti ∧ ¬ y.ti < x.fr) := by
            unfold blocks at hb
            cases h1 : d.testBit k
            · rw [h1] at hb
              by_cases h2 : 0 ≤ y.ti
              · right; right
                refine ⟨rfl, h2, fun h3 => ?_⟩
                rw [decide_eq_true h2, decide_eq_true h3] at hb
                cases hb
              · exact .inr (.inl ⟨rfl, h2⟩)
            · exact .inl rfl
          clear hb
          rcases HG with h1 | ⟨h1, h2⟩ | ⟨h1, h2, h3⟩
          · rw [h1, if_pos rfl] at hbk
            have b0 : (bits BinOp.and IntKind.i64 ((d : Int) / 2 ^ k) 1 == 0) = false := by rw [hbk]; rfl
            clear hbk h1
            go_wp2_with (first | (refine gate_ (.load 97 (.tmp 23)) rfl ?_; refine ev_load_mid (.load 97 (.tmp 23)) rfl rfl 97 (.tmp 23) rfl q (o + k * 20) ?x1 y.c _ HR.out Tryd.underlying97 rfl ?x3 ?_; (case x1 => rfl); (case x3 => kernel_rfl)) | (refine gate_ (.store 97 (.tmp 8) (.tmp 24)) rfl ?_; refine ev_store_row (.store 97 (.tmp 8) (.tmp 24)) rfl rfl rfl 97 (.tmp 8) (.tmp 24) rfl wr.heap.size y.c.toArray rfl rfl 97 Z97 (blk_new wr (.cells Z97 97)) ?y1 rfl HY1.out ?_; (case y1 => kernel_rfl); intro w_1 hw1 hm1; have HB1 := Aside0.mk (fresh_blk hm1); have k1 : w_1.cell? ⟨wr.heap.size, 1, none⟩ = some (.int .i64 y.ti) := blk_cell hw1 1; have cx1 := pw_cell_below HB1.out cx; have cs1 := pw_cell_below HB1.out cs; clear hw1 hm1))
            go_quiet (fail)
            go_wp2
            go_roundg (ops.length - (k + 1))
            case measure => have := HK.out; have := HN.out; omega
            case rel => exact MayAt.step HK.out HY.out HA.out HB.out HBL.out _ rfl (pw_below_drewN HB1.out _)
          · rw [h1, if_neg (by decide)] at hbk
            have b0 : (bits BinOp.and IntKind.i64 ((d : Int) / 2 ^ k) 1 == 0) = true := by rw [hbk]; rfl
            have b1 : decide (0 ≤ y.ti) = false := decide_eq_false h2
            clear hbk h1
            go_wp2_with (first | (refine gate_ (.load 97 (.tmp 23)) rfl ?_; refine ev_load_mid (.load 97 (.tmp 23)) rfl rfl 97 (.tmp 23) rfl q (o + k * 20) ?x1 y.c _ HR.out Tryd.underlying97 rfl ?x3 ?_; (case x1 => rfl); (case x3 => kernel_rfl)) | (refine gate_ (.store 97 (.tmp 8) (.tmp 24)) rfl ?_; refine ev_store_row (.store 97 (.tmp 8) (.tmp 24)) rfl rfl rfl 97 (.tmp 8) (.tmp 24) rfl wr.heap.size y.c.toArray rfl rfl 97 Z97 (blk_new wr (.cells Z97 97)) ?y1 rfl HY1.out ?_; (case y1 => kernel_rfl); intro w_1 hw1 hm1; have HB1 := Aside0.mk (fresh_blk hm1); have k1 : w_1.cell? ⟨wr.heap.size, 1, none⟩ = some (.int .i64 y.ti) := blk_cell hw1 1; have cx1 := pw_cell_below HB1.out cx; have cs1 := pw_cell_below HB1.out cs; clear hw1 hm1))
            go_quiet (fail)
            go_wp2
            go_roundg (ops.length - (k + 1))
            case measure => have := HK.out; have := HN.out; omega
            case rel => exact MayAt.step HK.out HY.out HA.out HB.out HBL.out _ rfl (pw_below_drewN HB1.out _)
          · rw [h1, if_neg (by decide)] at hbk
            have b0 : (bits BinOp.and IntKind.i64 ((d : Int) / 2 ^ k) 1 == 0) = true := by rw [hbk]; rfl
            have b1 : decide (0 ≤ y.ti) = true := decide_eq_true h2
            have b2 : decide (y.ti < x.fr) = false := decide_eq_false h3
            clear hbk h1
            go_wp2_with (first | (refine gate_ (.load 97 (.tmp 23)) rfl ?_; refine ev_load_mid (.load 97 (.tmp 23)) rfl rfl 97 (.tmp 23) rfl q (o + k * 20) ?x1 y.c _ HR.out Tryd.underlying97 rfl ?x3 ?_; (case x1 => rfl); (case x3 => kernel_rfl)) | (refine gate_ (.store 97 (.tmp 8) (.tmp 24)) rfl ?_; refine ev_store_row (.store 97 (.tmp 8) (.tmp 24)) rfl rfl rfl 97 (.tmp 8) (.tmp 24) rfl wr.heap.size y.c.toArray rfl rfl 97 Z97 (blk_new wr (.cells Z97 97)) ?y1 rfl HY1.out ?_; (case y1 => kernel_rfl); intro w_1 hw1 hm1; have HB1 := Aside0.mk (fresh_blk hm1); have k1 : w_1.cell? ⟨wr.heap.size, 1, none⟩ = some (.int .i64 y.ti) := blk_cell hw1 1; have cx1 := pw_cell_below HB1.out cx; have cs1 := pw_cell_below HB1.out cs; clear hw1 hm1))
            go_quiet (fail)
            go_wp2
            go_roundg (ops.length - (k + 1))
            case measure => have := HK.out; have := HN.out; omega
            case rel => exact MayAt.step HK.out HY.out HA.out HB.out HBL.out _ rfl (pw_below_drewN HB1.out _)
        · have HN0 := Aside0.mk (may_no HX.out HY.out hb)
          have HG : d.testBit k = false ∧ 0 ≤ y.ti ∧ y.ti < x.fr := by
            unfold blocks at hb
            simp only [Bool.and_eq_true, Bool.not_eq_true', decide_eq_true_eq] at hb
            exact hb
          clear hb
          obtain ⟨h1, h2, h3⟩ := HG
          · rw [h1, if_neg (by decide)] at hbk
            have b0 : (bits BinOp.and IntKind.i64 ((d : Int) / 2 ^ k) 1 == 0) = true := by rw [hbk]; rfl
            have b1 : decide (0 ≤ y.ti) = true := decide_eq_true h2
            have b2 : decide (y.ti < x.fr) = true := decide_eq_true h3
            clear hbk h1
            go_wp2_with (first | (refine gate_ (.load 97 (.tmp 23)) rfl ?_; refine ev_load_mid (.load 97 (.tmp 23)) rfl rfl 97 (.tmp 23) rfl q (o + k * 20) ?x1 y.c _ HR.out Tryd.underlying97 rfl ?x3 ?_; (case x1 => rfl); (case x3 => kernel_rfl)) | (refine gate_ (.store 97 (.tmp 8) (.tmp 24)) rfl ?_; refine ev_store_row (.store 97 (.tmp 8) (.tmp 24)) rfl rfl rfl 97 (.tmp 8) (.tmp 24) rfl wr.heap.size y.c.toArray rfl rfl 97 Z97 (blk_new wr (.cells Z97 97)) ?y1 rfl HY1.out ?_; (case y1 => kernel_rfl); intro w_1 hw1 hm1; have HB1 := Aside0.mk (fresh_blk hm1); have k1 : w_1.cell? ⟨wr.heap.size, 1, none⟩ = some (.int .i64 y.ti) := blk_cell hw1 1; have cx1 := pw_cell_below HB1.out cx; have cs1 := pw_cell_below HB1.out cs; clear hw1 hm1))
            go_quiet (fail)
            go_wp2
            go_ret
            exact ⟨by rw [HN0.out]; rfl, below_step HB.out (pw_below_drewN HB1.out _)⟩
      · obtain rfl : k = N := by have := HN.out; omega
        have r1 : decide ((k : Int) < (k : Int)) = false := decide_eq_false (by omega)
        have HN1 := Aside0.mk (may_yes HX.out HT.out (fun j o hj => HA.out j o (by have := (List.getElem?_eq_some_iff.1 hj).1; have := HN.out; omega) hj))
        clear hk hall hB hlt
        go_wp2
        go_ret
        exact ⟨by rw [HN1.out]; rfl, HB.out⟩
  · rw [ht] at hbit
    simp only [if_true] at hbit
    have HT := Aside0.mk ht
    have HBT := Aside0.mk hbit
    have hb1 : (bits BinOp.and IntKind.i64 ((d : Int) / 2 ^ i) 1 == 1) = true := by rw [hbit]; rfl
    clear hbit ht
    go_enter Tryd.func64, Tryd.ntmps64
    go_wp2
    go_ret
    refine ⟨?_, Below.refl _ _⟩
    have : mayB ops i d = false := by unfold mayB; rw [HT.out]; rfl
    rw [this]
    rfl
end Go.Proofs.YtepklobkppdliaaDoor.Hs
namespace Go.Proofs.YtepklobkppdliaaDoor.Hs
open Go.RowKit Go.Proofs.YtepklobkppdliaaDoorW.PrintWords Go.Proofs.YtepklobkppdliaaDoorW.PrintLast Go.Proofs.YtepklobkppdliaaDoorW.PrintMore Go.Proofs.YtepklobkppdliaaDoor.Lib Go.Proofs.YtepklobkppdliaaDoor.Open Go.Proofs.YtepklobkppdliaaDoor.Md
def z104 : En := ⟨false, 0, ⟨#[]⟩⟩
def ent0 (key : ByteArray) (e : En) : Ent := ⟨key, e.fl, 0, e.val, 0⟩
def Z27 : Array Value := #[.int .i64 0, .slice none 0 0, .int .i64 0, .int .i64 0, .int .i64 0, .int .i64 0, .int .u64 0, .bool false, .string ⟨#[]⟩]
theorem rq_one (r : Rq) (kv : Value) (h : kv.oneCell' = true) : (r.c kv).all (·.oneCell') = true := by
  unfold Value.oneCell' at h
  simp [Rq.c, Value.oneCell', h]
/-- What a call that is no get does to an entry; and may it have answered so? -/
def doesN (key : ByteArray) (o : Opn) (e : En) : An × Ent × Bool × Bool := nextOf o.r (ent0 key e) e.there 0 1
def okB (a : An) (b : Aw) : Bool := a.kind == b.kind && (a.num == b.num && (a.text.toList == b.text.toList))
def doesF (key : ByteArray) (o : Opn) (e : En) : En × Bool := match doesN key o e with
  | (a, x, kp, dr) => (if dr = true then z104 else if kp = true then ⟨true, x.fl, x.val⟩ else e, okB a o.a)
set_option maxHeartbeats 16000000 in
set_option maxRecDepth 100000 in
theorem does_other (g : Nat) (key : ByteArray) (o : Opn) (e : En) (w : World) (hc : w.cell? ⟨g, 0, none⟩ = some (.string key)) (hkv : o.kv.oneCell' = true) (hv : o.r.verb ≠ 1 ∧ o.r.verb ≠ 13) (hF : Fine o.r (ent0 key e)) (ht : Pow w) :
    Calls Tryd.prog 76 #[.pointer (some ⟨g, 0, none⟩), .agg o.c.toArray, .agg e.c] w fun e_ w' => e_ = .returned (.tuple #[.agg (doesF key o e).1.c, .bool (doesF key o e).2]) ∧ Below w.heap.size w w' := by
  have v1 : (o.r.verb == 1) = false := beq_eq_false_iff_ne.2 hv.1
  have v13 : (o.r.verb == 13) = false := beq_eq_false_iff_ne.2 hv.2
  have HC := Aside0.mk hc
  have HF := Aside0.mk hF
  have HT := Aside0.mk ht
  have HG := Aside0.mk (World.block_lt_of_cell? _ _ hc)
  have HKV := Aside0.mk (rq_one o.r o.kv hkv)
  have H4 := Aside0.mk (four w (.cells o.c.toArray 97) (.cells e.c 104) (.cells z104.c 104) (.cells Z27 27))
  have hdr : ∀ {a : An} {x : Ent} {d : Bool}, doesN key o e = (a, x, true, d) → d = false := fun {a x d} h => by
    have := (next_fine o.r (ent0 key e) e.there 0 1 hF).2
    unfold doesN at h
    rw [h] at this
    exact this rfl
  clear hc hF ht hv hkv
  simp only [Opn.c, En.c]
  go_enter Tryd.func76, Tryd.ntmps76
  go_wp2_with (refine gate_ (.store 27 (.tmp 8) (.tmp 31)) rfl ?_; refine ev_store_row (.store 27 (.tmp 8) (.tmp 31)) rfl rfl rfl 27 (.tmp 8) (.tmp 31) rfl (w.heap.size + 1 + 1 + 1) (o.r.c o.kv) rfl rfl 27 Z27 H4.out.2.2.2.1 ?y1 rfl HKV.out ?_; (case y1 => kernel_rfl); intro w_1 hw1 hm1; have HB1 := Aside0.mk (hm1.after H4.out.2.2.2.2 H4.out.2.2.2.2.size (fun q hq => by omega)); have K4 := Aside0.mk (hm1.blk H4.out.1 (by omega)); have K5 := Aside0.mk (hm1.blk H4.out.2.1 (by omega)); have K6 := Aside0.mk (hm1.blk H4.out.2.2.1 (by omega)); have K8 := Aside0.mk hw1; have cg := pw_cell_below HB1.out HC.out; have k81 : ∀ o_, (w_1.alloc o_).cell? ⟨w.heap.size + 1 + 1 + 1, 1, none⟩ = some o.kv := fun o_ => blk_cell (blk_alloc hw1 o_) 1; have f81 : ∀ o_, (w_1.alloc o_).frozen? ⟨w.heap.size + 1 + 1 + 1, 1, none⟩ = false := fun o_ => blk_frozen (blk_alloc hw1 o_) 1; clear hw1 hm1)
  obtain ⟨g9, hg9⟩ : ∃ g9, g9 = w_1.heap.size := ⟨_, rfl⟩
  rw [← hg9]
  have hM := Mod.setCell (p := ⟨w.heap.size + 1 + 1 + 1, 1, none⟩) (Mod.refl (fun q => q = w.heap.size + 1 + 1 + 1) (w_1.alloc (.cells #[.string key] 9))) (.inl rfl) (.slice (some ⟨g9, 0, none⟩) 1 1)
  have b8 : ((w_1.alloc (.cells #[.string key] 9)).setCell ⟨w.heap.size + 1 + 1 + 1, 1, none⟩ (.slice (some ⟨g9, 0, none⟩) 1 1)).heap[w.heap.size + 1 + 1 + 1]? = some (.cells (o.r.c (.slice (some ⟨g9, 0, none⟩) 1 1)) 27 (0, 0)) := blk_put (blk_alloc K8.out _) 1 _ rfl
  have b4 := hM.blk (blk_alloc K4.out (.cells #[.string key] 9)) (by omega)
  have b5 := hM.blk (blk_alloc K5.out (.cells #[.string key] 9)) (by omega)
  have b6 := hM.blk (blk_alloc K6.out (.cells #[.string key] 9)) (by omega)
  have hB := hM.after (below_step HB1.out (below_alloc (Below.refl _ _) (.cells #[.string key] 9))) (Nat.le_trans HB1.out.size (by simp)) (fun q hq => by omega)
  obtain ⟨W, hW⟩ : ∃ W, W = (w_1.alloc (.cells #[.string key] 9)).setCell ⟨w.heap.size + 1 + 1 + 1, 1, none⟩ (.slice (some ⟨g9, 0, none⟩) 1 1) := ⟨_, rfl⟩
  rw [← hW] at b8 b4 b5 b6 hB ⊢
  have HB := Aside0.mk hB
  have K4 := Aside0.mk b4
  have K5 := Aside0.mk b5
  have K6 := Aside0.mk b6
  have K8 := Aside0.mk b8
  have CG := Aside0.mk (pw_cell_below hB HC.out)
  have HTW := Aside0.mk (HT.out.below hB)
  have HW := Aside0.mk hW
  obtain ⟨N, hN⟩ : ∃ N, N = doesN key o e := ⟨_, rfl⟩
  clear hW hB b4 b5 b6 b8 hM cg k81 f81
  refine Ev.region_gh (fun γ => [(some 39, .agg (o.r.c (.slice (some ⟨g9, 0, none⟩) 1 1))), (some 40, .pointer (some ⟨g, 0, none⟩)), (some 41, .pointer (some ⟨g, 0, none⟩)), (some 42, .pointer (some ⟨g, 0, none⟩)), (some 43, .string key), (some 44, .pointer (some ⟨w.heap.size + 1, 1, none⟩)), (some 45, .int .i64 e.fl), (some 46, .pointer (some ⟨w.heap.size + 1, 2, none⟩)), (some 47, .string e.val), (some 48, .agg (ent0 key e).c), (some 49, .pointer (some ⟨w.heap.size + 1, 0, none⟩)), (some 50, .bool e.there), (some 51, .tuple #[.agg N.1.c, .agg N.2.1.c, .bool N.2.2.1, .bool N.2.2.2]), (some 38, .tuple #[.agg N.1.c, .agg N.2.1.c, .bool N.2.2.1, .bool N.2.2.2]), (some 52, .agg N.1.c), (some 53, .agg N.2.1.c), (some 54, .bool N.2.2.1), (some 55, .bool N.2.2.2), (some 9, .pointer (some ⟨γ.1, 0, none⟩)), (some 10, .pointer (some ⟨γ.2, 0, none⟩)), (none, undef), (none, undef), (some 11, .bool N.2.2.1), (some 12, .bool N.2.2.2)]) (Ev.Two2 W 32 9 N.1.c 18 20 38 5 N.2.1.c 19 21) (0, 0) (by kernel_rfl) (by kernel_rfl) ⟨fun _ => rfl, by decide, rfl⟩ Ev.two2_start (fun hF => ?_) (fun γ w' hI => ?_)
  · refine Ev.steps_cons (Ev.two2_val hF rfl rfl (by kernel_rfl) (fun _ _ h => by cases h) (fun _ => .agg (o.r.c (.slice (some ⟨g9, 0, none⟩) 1 1))) (fun _ => rfl) (by decide) (fun γ w2 hb => Ev.run_load_whole 27 (.tmp 8) rfl (w.heap.size + 1 + 1 + 1) (by kernel_rfl) 27 _ _ ((hb.block _ (blk_lt K8.out)).trans K8.out) Tryd.underlying27 rfl (by kernel_rfl))) ?_
    refine Ev.steps_cons (Ev.two2_val hF rfl rfl (by kernel_rfl) (fun _ _ h => by cases h) (fun _ => .pointer (some ⟨g, 0, none⟩)) (fun _ => rfl) (by decide) (fun γ w2 hb => (by kernel_rfl))) ?_
    refine Ev.steps_cons (Ev.two2_val hF rfl rfl (by kernel_rfl) (fun _ _ h => by cases h) (fun _ => .pointer (some ⟨g, 0, none⟩)) (fun _ => rfl) (by decide) (fun γ w2 hb => (by exact Ev.run_via (v := .pointer (some ⟨g, 0, none⟩)) rfl (fun _ _ h => by cases h) (by kernel_rfl) (by kernel_rfl)))) ?_
    refine Ev.steps_cons (Ev.two2_val hF rfl rfl (by kernel_rfl) (fun _ _ h => by cases h) (fun _ => .pointer (some ⟨g, 0, none⟩)) (fun _ => rfl) (by decide) (fun γ w2 hb => (by exact Ev.run_via (v := .pointer (some ⟨g, 0, none⟩)) rfl (fun _ _ h => by cases h) (by kernel_rfl) (by kernel_rfl)))) ?_
    refine Ev.steps_cons (Ev.two2_val hF rfl rfl (by kernel_rfl) (fun _ _ h => by cases h) (fun _ => .string key) (fun _ => rfl) (by decide) (fun γ w2 hb => (by have c := pw_cell_below hb CG.out; exact Ev.run_via (v := .pointer (some ⟨g, 0, none⟩)) rfl (fun _ _ h => by cases h) (by kernel_rfl) (by go_simp)))) ?_
    refine Ev.steps_cons (Ev.two2_val hF rfl rfl (by kernel_rfl) (fun _ _ h => by cases h) (fun _ => .pointer (some ⟨w.heap.size + 1, 1, none⟩)) (fun _ => rfl) (by decide) (fun γ w2 hb => (by exact Ev.run_via (v := .pointer (some ⟨w.heap.size + 1, 0, none⟩)) rfl (fun _ _ h => by cases h) (by kernel_rfl) (by kernel_rfl)))) ?_
    refine Ev.steps_cons (Ev.two2_val hF rfl rfl (by kernel_rfl) (fun _ _ h => by cases h) (fun _ => .int .i64 e.fl) (fun _ => rfl) (by decide) (fun γ w2 hb => (by have c : w2.cell? ⟨w.heap.size + 1, 1, none⟩ = some (.int .i64 e.fl) := blk_cell ((hb.block _ (blk_lt K5.out)).trans K5.out) 1; exact Ev.run_via (v := .pointer (some ⟨w.heap.size + 1, 1, none⟩)) rfl (fun _ _ h => by cases h) (by kernel_rfl) (by go_simp)))) ?_
    refine Ev.steps_cons (Ev.two2_val hF rfl rfl (by kernel_rfl) (fun _ _ h => by cases h) (fun _ => .pointer (some ⟨w.heap.size + 1, 2, none⟩)) (fun _ => rfl) (by decide) (fun γ w2 hb => (by exact Ev.run_via (v := .pointer (some ⟨w.heap.size + 1, 0, none⟩)) rfl (fun _ _ h => by cases h) (by kernel_rfl) (by kernel_rfl)))) ?_
    refine Ev.steps_cons (Ev.two2_val hF rfl rfl (by kernel_rfl) (fun _ _ h => by cases h) (fun _ => .string e.val) (fun _ => rfl) (by decide) (fun γ w2 hb => (by have c : w2.cell? ⟨w.heap.size + 1, 2, none⟩ = some (.string e.val) := blk_cell ((hb.block _ (blk_lt K5.out)).trans K5.out) 2; exact Ev.run_via (v := .pointer (some ⟨w.heap.size + 1, 2, none⟩)) rfl (fun _ _ h => by cases h) (by kernel_rfl) (by go_simp)))) ?_
    refine Ev.steps_cons (Ev.two2_val hF rfl rfl (by kernel_rfl) (fun _ _ h => by cases h) (fun _ => .agg (ent0 key e).c) (fun _ => rfl) (by decide) (fun γ w2 hb => (by kernel_rfl))) ?_
    refine Ev.steps_cons (Ev.two2_val hF rfl rfl (by kernel_rfl) (fun _ _ h => by cases h) (fun _ => .pointer (some ⟨w.heap.size + 1, 0, none⟩)) (fun _ => rfl) (by decide) (fun γ w2 hb => (by exact Ev.run_via (v := .pointer (some ⟨w.heap.size + 1, 0, none⟩)) rfl (fun _ _ h => by cases h) (by kernel_rfl) (by kernel_rfl)))) ?_
    refine Ev.steps_cons (Ev.two2_val hF rfl rfl (by kernel_rfl) (fun _ _ h => by cases h) (fun _ => .bool e.there) (fun _ => rfl) (by decide) (fun γ w2 hb => (by have c : w2.cell? ⟨w.heap.size + 1, 0, none⟩ = some (.bool e.there) := blk_cell ((hb.block _ (blk_lt K5.out)).trans K5.out) 0; exact Ev.run_via (v := .pointer (some ⟨w.heap.size + 1, 0, none⟩)) rfl (fun _ _ h => by cases h) (by kernel_rfl) (by go_simp)))) ?_
    refine Ev.steps_cons (Ev.two2_call hF rfl rfl (by kernel_rfl) (fun _ _ h => by cases h) (fun _ => .tuple #[.agg N.1.c, .agg N.2.1.c, .bool N.2.2.1, .bool N.2.2.2]) (fun _ => rfl) (by decide) 17 (fun _ => #[.agg (o.r.c (.slice (some ⟨g9, 0, none⟩) 1 1)), .agg (ent0 key e).c, .bool e.there, .int .i64 0, .int .i64 1]) (fun γ w2 => by kernel_rfl) (fun γ w2 hb => by rw [hN]; exact next_calls o.r _ (ent0 key e) e.there 0 1 w2 HF.out (HTW.out.below hb))) ?_
    refine Ev.steps_cons (Ev.two2_val hF rfl rfl (by kernel_rfl) (fun _ _ h => by cases h) (fun _ => .tuple #[.agg N.1.c, .agg N.2.1.c, .bool N.2.2.1, .bool N.2.2.2]) (fun _ => rfl) (by decide) (fun γ w2 hb => (by kernel_rfl))) ?_
    refine Ev.steps_cons (Ev.two2_val hF rfl rfl (by kernel_rfl) (fun _ _ h => by cases h) (fun _ => .agg N.1.c) (fun _ => rfl) (by decide) (fun γ w2 hb => (by exact Ev.run_via (v := .tuple #[.agg N.1.c, .agg N.2.1.c, .bool N.2.2.1, .bool N.2.2.2]) rfl (fun _ _ h => by cases h) (by kernel_rfl) (by kernel_rfl)))) ?_
    refine Ev.steps_cons (Ev.two2_val hF rfl rfl (by kernel_rfl) (fun _ _ h => by cases h) (fun _ => .agg N.2.1.c) (fun _ => rfl) (by decide) (fun γ w2 hb => (by exact Ev.run_via (v := .tuple #[.agg N.1.c, .agg N.2.1.c, .bool N.2.2.1, .bool N.2.2.2]) rfl (fun _ _ h => by cases h) (by kernel_rfl) (by kernel_rfl)))) ?_
    refine Ev.steps_cons (Ev.two2_val hF rfl rfl (by kernel_rfl) (fun _ _ h => by cases h) (fun _ => .bool N.2.2.1) (fun _ => rfl) (by decide) (fun γ w2 hb => (by exact Ev.run_via (v := .tuple #[.agg N.1.c, .agg N.2.1.c, .bool N.2.2.1, .bool N.2.2.2]) rfl (fun _ _ h => by cases h) (by kernel_rfl) (by kernel_rfl)))) ?_
    refine Ev.steps_cons (Ev.two2_val hF rfl rfl (by kernel_rfl) (fun _ _ h => by cases h) (fun _ => .bool N.2.2.2) (fun _ => rfl) (by decide) (fun γ w2 hb => (by exact Ev.run_via (v := .tuple #[.agg N.1.c, .agg N.2.1.c, .bool N.2.2.1, .bool N.2.2.2]) rfl (fun _ _ h => by cases h) (by kernel_rfl) (by kernel_rfl)))) ?_
    refine Ev.steps_cons (Ev.two2_alloc1 (z := A0) hF rfl rfl (by kernel_rfl) (fun _ _ h => by cases h) (fun _ => rfl) (fun γ g j hj => ?a1) (by decide) (by decide) (by decide) rfl (fun γ w2 => by kernel_rfl)) ?_
    case a1 => match j with | 0 | 1 | 2 | 3 | 4 | 5 | 6 | 7 | 8 | 9 | 10 | 11 | 12 | 13 | 14 | 15 | 16 | 17 | 19 | 20 | 21 | 22 | 23 | j + 24 => rfl | 18 => exact absurd rfl hj
    refine Ev.steps_cons (Ev.two2_alloc2 (z := E0) hF rfl rfl (by kernel_rfl) (fun _ _ h => by cases h) (fun _ => rfl) (fun γ g j hj => ?a2) (by decide) (by decide) (by decide) rfl (fun γ w2 => by kernel_rfl)) ?_
    case a2 => match j with | 0 | 1 | 2 | 3 | 4 | 5 | 6 | 7 | 8 | 9 | 10 | 11 | 12 | 13 | 14 | 15 | 16 | 17 | 18 | 20 | 21 | 22 | 23 | j + 24 => rfl | 19 => exact absurd rfl hj
    refine Ev.steps_cons (Ev.two2_store1 hF rfl rfl (by kernel_rfl) (fun _ _ h => by cases h) (fun _ => rfl) 32 (.tmp 9) (.tmp 52) rfl (fun γ => by kernel_rfl) (fun γ => by kernel_rfl) rfl (by kernel_rfl) (ans_one _ _ _) (fun S hd => hd ⟨18, .data⟩ (by simp) rfl) (by decide) (by decide) (by decide) (by decide)) ?_
    refine Ev.steps_cons (Ev.two2_store2 hF rfl rfl (by kernel_rfl) (fun _ _ h => by cases h) (fun _ => rfl) 38 (.tmp 10) (.tmp 53) rfl (fun γ => by kernel_rfl) (fun γ => by kernel_rfl) rfl (by kernel_rfl) (ent_one _) (fun S hd => hd ⟨19, .data⟩ (by simp) rfl) (by decide) (by decide) (by decide) (by decide)) ?_
    refine Ev.steps_cons (Ev.two2_val hF rfl rfl (by kernel_rfl) (fun _ _ h => by cases h) (fun _ => .bool N.2.2.1) (fun _ => rfl) (by decide) (fun γ w2 hb => (by kernel_rfl))) ?_
    refine Ev.steps_cons (Ev.two2_val hF rfl rfl (by kernel_rfl) (fun _ _ h => by cases h) (fun _ => .bool N.2.2.2) (fun _ => rfl) (by decide) (fun γ w2 hb => (by kernel_rfl))) ?_
    exact Ev.steps_nil
  · simp only [Ev.putAll, Act.put, List.setIfInBounds_toArray, List.set_cons_succ, List.set_cons_zero]
    obtain ⟨hBe, hg1, hb1, hg2, hb2⟩ := Ev.two2_end hI (by decide) (by decide) (by decide) (by decide)
    obtain ⟨a, x, kp, dr⟩ := N
    simp only at hb1 hb2
    have TA := Aside0.mk hb1
    have NA := Aside0.mk (show ¬ γ.1 = w.heap.size + 1 + 1 by have h1 := blk_lt K8.out; have h2 := blk_lt K6.out; omega)
    have KE4 := Aside0.mk ((hBe.block _ (blk_lt K4.out)).trans K4.out)
    have KE5 := Aside0.mk ((hBe.block _ (blk_lt K5.out)).trans K5.out)
    have KE6 := Aside0.mk ((hBe.block _ (blk_lt K6.out)).trans K6.out)
    have BE := Aside0.mk (HB.out.trans (hBe.mono HB.out.size))
    have cf : w'.cell? ⟨γ.2, 1, none⟩ = some (.int .i64 x.fl) := blk_cell hb2 1
    have cv : w'.cell? ⟨γ.2, 3, none⟩ = some (.string x.val) := blk_cell hb2 3
    have N1 := Aside0.mk (show ¬ γ.1 = w.heap.size + 1 by have h2 := blk_lt K6.out; omega)
    clear hBe hg1 hb1 hg2 hb2 hI
    cases kp
    · cases dr
      · go_wp2
        obtain ⟨Wt, hWt⟩ : ∃ Wt, Wt = w' := ⟨_, rfl⟩
        subst hWt
        have T5 := KE5; have T4 := KE4; have T6 := KE6; have TB := BE
        cases q1 : (a.kind == o.a.kind)
        · refine Ev.region_ev (Ev.Onw Wt (w.heap.size + 1 + 1) 104 z104.c e.c 23) (by kernel_rfl) (by kernel_rfl) (Ev.onw_start T6.out) ?_
          refine Ev.ev_step (v := .agg e.c) rfl rfl (Ev.onw_read (by decide) (fun w2 hm => Ev.run_load_whole 104 (.tmp 5) rfl (w.heap.size + 1) rfl 104 _ _ (hm.blk T5.out (by omega)) Tryd.underlying104 rfl (by kernel_rfl))) ?_
          simp only [Act.put, List.setIfInBounds_toArray, List.set_cons_succ, List.set_cons_zero]
          refine Ev.ev_step (v := .pointer (some ⟨γ.1, 0, none⟩)) rfl rfl (Ev.onw_pure (by decide) (fun _ => by first | rfl | (go_simp; done) | (go_simp; rfl))) ?_
          simp only [Act.put, List.setIfInBounds_toArray, List.set_cons_succ, List.set_cons_zero]
          refine Ev.ev_step (v := .int .i64 a.kind) rfl rfl (Ev.onw_read (by decide) (fun w2 hm => by have c : w2.cell? ⟨γ.1, 0, none⟩ = some (.int .i64 a.kind) := blk_cell (hm.blk TA.out NA.out) 0; go_simp)) ?_
          simp only [Act.put, List.setIfInBounds_toArray, List.set_cons_succ, List.set_cons_zero]
          refine Ev.ev_step (v := .pointer (some ⟨w.heap.size, 11, none⟩)) rfl rfl (Ev.onw_pure (by decide) (fun _ => by first | rfl | (go_simp; done) | (go_simp; rfl))) ?_
          simp only [Act.put, List.setIfInBounds_toArray, List.set_cons_succ, List.set_cons_zero]
          refine Ev.ev_step (v := .pointer (some ⟨w.heap.size, 11, none⟩)) rfl rfl (Ev.onw_pure (by decide) (fun _ => by first | rfl | (go_simp; done) | (go_simp; rfl))) ?_
          simp only [Act.put, List.setIfInBounds_toArray, List.set_cons_succ, List.set_cons_zero]
          refine Ev.ev_step (v := .int .i64 o.a.kind) rfl rfl (Ev.onw_read (by decide) (fun w2 hm => by have c : w2.cell? ⟨w.heap.size, 11, none⟩ = some (.int .i64 o.a.kind) := blk_cell (hm.blk T4.out (by omega)) 11; go_simp)) ?_
          simp only [Act.put, List.setIfInBounds_toArray, List.set_cons_succ, List.set_cons_zero]
          refine Ev.ev_step (v := .bool (a.kind == o.a.kind)) rfl rfl (Ev.onw_pure (by decide) (fun _ => by first | rfl | (go_simp; done) | (go_simp; rfl))) ?_
          simp only [Act.put, List.setIfInBounds_toArray, List.set_cons_succ, List.set_cons_zero]; rw [q1]
          refine Ev.ev_step (v := .bool false) rfl rfl (Ev.onw_pure (by decide) (fun _ => by first | rfl | (go_simp; done) | (go_simp; rfl))) ?_
          simp only [Act.put, List.setIfInBounds_toArray, List.set_cons_succ, List.set_cons_zero]
          refine Ev.ev_off (by kernel_rfl) rfl (Ev.onw_idle (by decide)) ?_
          simp only [Act.put, List.setIfInBounds_toArray, List.set_cons_succ, List.set_cons_zero]
          refine Ev.ev_off (by kernel_rfl) rfl (Ev.onw_idle (by decide)) ?_
          simp only [Act.put, List.setIfInBounds_toArray, List.set_cons_succ, List.set_cons_zero]
          refine Ev.ev_off (by kernel_rfl) rfl (Ev.onw_idle (by decide)) ?_
          simp only [Act.put, List.setIfInBounds_toArray, List.set_cons_succ, List.set_cons_zero]
          refine Ev.ev_off (by kernel_rfl) rfl (Ev.onw_idle (by decide)) ?_
          simp only [Act.put, List.setIfInBounds_toArray, List.set_cons_succ, List.set_cons_zero]
          refine Ev.ev_off (by kernel_rfl) rfl (Ev.onw_idle (by decide)) ?_
          simp only [Act.put, List.setIfInBounds_toArray, List.set_cons_succ, List.set_cons_zero]
          refine Ev.ev_off (by kernel_rfl) rfl (Ev.onw_idle (by decide)) ?_
          simp only [Act.put, List.setIfInBounds_toArray, List.set_cons_succ, List.set_cons_zero]
          refine Ev.ev_step (v := .bool false) rfl rfl (Ev.onw_pure (by decide) (fun _ => by first | rfl | (go_simp; done) | (go_simp; rfl))) ?_
          simp only [Act.put, List.setIfInBounds_toArray, List.set_cons_succ, List.set_cons_zero]
          refine Ev.ev_step (v := .bool false) rfl rfl (Ev.onw_pure (by decide) (fun _ => by first | rfl | (go_simp; done) | (go_simp; rfl))) ?_
          simp only [Act.put, List.setIfInBounds_toArray, List.set_cons_succ, List.set_cons_zero]
          refine Ev.ev_off (by kernel_rfl) rfl (Ev.onw_idle (by decide)) ?_
          simp only [Act.put, List.setIfInBounds_toArray, List.set_cons_succ, List.set_cons_zero]
          refine Ev.ev_off (by kernel_rfl) rfl (Ev.onw_idle (by decide)) ?_
          simp only [Act.put, List.setIfInBounds_toArray, List.set_cons_succ, List.set_cons_zero]
          refine Ev.ev_off (by kernel_rfl) rfl (Ev.onw_idle (by decide)) ?_
          simp only [Act.put, List.setIfInBounds_toArray, List.set_cons_succ, List.set_cons_zero]
          refine Ev.ev_off (by kernel_rfl) rfl (Ev.onw_idle (by decide)) ?_
          simp only [Act.put, List.setIfInBounds_toArray, List.set_cons_succ, List.set_cons_zero]
          refine Ev.ev_off (by kernel_rfl) rfl (Ev.onw_idle (by decide)) ?_
          simp only [Act.put, List.setIfInBounds_toArray, List.set_cons_succ, List.set_cons_zero]
          refine Ev.ev_off (by kernel_rfl) rfl (Ev.onw_idle (by decide)) ?_
          simp only [Act.put, List.setIfInBounds_toArray, List.set_cons_succ, List.set_cons_zero]
          refine Ev.ev_step (v := .bool false) rfl rfl (Ev.onw_pure (by decide) (fun _ => by first | rfl | (go_simp; done) | (go_simp; rfl))) ?_
          simp only [Act.put, List.setIfInBounds_toArray, List.set_cons_succ, List.set_cons_zero]
          refine Ev.ev_step (v := undef) rfl rfl (Ev.onw_store 104 (.tmp 6) (.tmp 64) rfl rfl rfl rfl (by kernel_rfl) (en_one _)) ?_
          simp only [Act.put]
          refine Ev.ev_step (v := .bool false) rfl rfl (Ev.onw_pure (by decide) (fun _ => by first | rfl | (go_simp; done) | (go_simp; rfl))) ?_
          simp only [Act.put, List.setIfInBounds_toArray, List.set_cons_succ, List.set_cons_zero]
          refine Ev.ev_nil (fun w_e hw_e => ?_)
          obtain ⟨hM_e, hX_e⟩ := Ev.onw_end hw_e (by decide)
          clear hw_e
          go_wp2
          refine bodyPost_ret (Ev.results_c1 rfl rfl hX_e Tryd.underlying104 rfl (by kernel_rfl) rfl) rfl ⟨?_, hM_e.after TB.out TB.out.size (fun q hq => by omega)⟩
          unfold doesF okB
          rw [← hN]; simp only []; rw [q1]
          rfl
        · cases q2 : (a.num == o.a.num)
          · refine Ev.region_ev (Ev.Onw Wt (w.heap.size + 1 + 1) 104 z104.c e.c 23) (by kernel_rfl) (by kernel_rfl) (Ev.onw_start T6.out) ?_
            refine Ev.ev_step (v := .agg e.c) rfl rfl (Ev.onw_read (by decide) (fun w2 hm => Ev.run_load_whole 104 (.tmp 5) rfl (w.heap.size + 1) rfl 104 _ _ (hm.blk T5.out (by omega)) Tryd.underlying104 rfl (by kernel_rfl))) ?_
            simp only [Act.put, List.setIfInBounds_toArray, List.set_cons_succ, List.set_cons_zero]
            refine Ev.ev_step (v := .pointer (some ⟨γ.1, 0, none⟩)) rfl rfl (Ev.onw_pure (by decide) (fun _ => by first | rfl | (go_simp; done) | (go_simp; rfl))) ?_
            simp only [Act.put, List.setIfInBounds_toArray, List.set_cons_succ, List.set_cons_zero]
            refine Ev.ev_step (v := .int .i64 a.kind) rfl rfl (Ev.onw_read (by decide) (fun w2 hm => by have c : w2.cell? ⟨γ.1, 0, none⟩ = some (.int .i64 a.kind) := blk_cell (hm.blk TA.out NA.out) 0; go_simp)) ?_
            simp only [Act.put, List.setIfInBounds_toArray, List.set_cons_succ, List.set_cons_zero]
            refine Ev.ev_step (v := .pointer (some ⟨w.heap.size, 11, none⟩)) rfl rfl (Ev.onw_pure (by decide) (fun _ => by first | rfl | (go_simp; done) | (go_simp; rfl))) ?_
            simp only [Act.put, List.setIfInBounds_toArray, List.set_cons_succ, List.set_cons_zero]
            refine Ev.ev_step (v := .pointer (some ⟨w.heap.size, 11, none⟩)) rfl rfl (Ev.onw_pure (by decide) (fun _ => by first | rfl | (go_simp; done) | (go_simp; rfl))) ?_
            simp only [Act.put, List.setIfInBounds_toArray, List.set_cons_succ, List.set_cons_zero]
            refine Ev.ev_step (v := .int .i64 o.a.kind) rfl rfl (Ev.onw_read (by decide) (fun w2 hm => by have c : w2.cell? ⟨w.heap.size, 11, none⟩ = some (.int .i64 o.a.kind) := blk_cell (hm.blk T4.out (by omega)) 11; go_simp)) ?_
            simp only [Act.put, List.setIfInBounds_toArray, List.set_cons_succ, List.set_cons_zero]
            refine Ev.ev_step (v := .bool (a.kind == o.a.kind)) rfl rfl (Ev.onw_pure (by decide) (fun _ => by first | rfl | (go_simp; done) | (go_simp; rfl))) ?_
            simp only [Act.put, List.setIfInBounds_toArray, List.set_cons_succ, List.set_cons_zero]; rw [q1]
            refine Ev.ev_step (v := .bool true) rfl rfl (Ev.onw_pure (by decide) (fun _ => by first | rfl | (go_simp; done) | (go_simp; rfl))) ?_
            simp only [Act.put, List.setIfInBounds_toArray, List.set_cons_succ, List.set_cons_zero]
            refine Ev.ev_on (v := .pointer (some ⟨γ.1, 3, none⟩)) (by kernel_rfl) rfl (Ev.onw_pure (by decide) (fun _ => by first | rfl | (go_simp; done) | (go_simp; rfl))) ?_
            simp only [Act.put, List.setIfInBounds_toArray, List.set_cons_succ, List.set_cons_zero]
            refine Ev.ev_on (v := .int .u64 a.num) (by kernel_rfl) rfl (Ev.onw_read (by decide) (fun w2 hm => by have c : w2.cell? ⟨γ.1, 3, none⟩ = some (.int .u64 a.num) := blk_cell (hm.blk TA.out NA.out) 3; go_simp)) ?_
            simp only [Act.put, List.setIfInBounds_toArray, List.set_cons_succ, List.set_cons_zero]
            refine Ev.ev_on (v := .pointer (some ⟨w.heap.size, 11, none⟩)) (by kernel_rfl) rfl (Ev.onw_pure (by decide) (fun _ => by first | rfl | (go_simp; done) | (go_simp; rfl))) ?_
            simp only [Act.put, List.setIfInBounds_toArray, List.set_cons_succ, List.set_cons_zero]
            refine Ev.ev_on (v := .pointer (some ⟨w.heap.size, 14, none⟩)) (by kernel_rfl) rfl (Ev.onw_pure (by decide) (fun _ => by first | rfl | (go_simp; done) | (go_simp; rfl))) ?_
            simp only [Act.put, List.setIfInBounds_toArray, List.set_cons_succ, List.set_cons_zero]
            refine Ev.ev_on (v := .int .u64 o.a.num) (by kernel_rfl) rfl (Ev.onw_read (by decide) (fun w2 hm => by have c : w2.cell? ⟨w.heap.size, 14, none⟩ = some (.int .u64 o.a.num) := blk_cell (hm.blk T4.out (by omega)) 14; go_simp)) ?_
            simp only [Act.put, List.setIfInBounds_toArray, List.set_cons_succ, List.set_cons_zero]
            refine Ev.ev_on (v := .bool (a.num == o.a.num)) (by kernel_rfl) rfl (Ev.onw_pure (by decide) (fun _ => by first | rfl | (go_simp; done) | (go_simp; rfl))) ?_
            simp only [Act.put, List.setIfInBounds_toArray, List.set_cons_succ, List.set_cons_zero]; rw [q2]
            refine Ev.ev_step (v := .bool false) rfl rfl (Ev.onw_pure (by decide) (fun _ => by first | rfl | (go_simp; done) | (go_simp; rfl))) ?_
            simp only [Act.put, List.setIfInBounds_toArray, List.set_cons_succ, List.set_cons_zero]
            refine Ev.ev_step (v := .bool false) rfl rfl (Ev.onw_pure (by decide) (fun _ => by first | rfl | (go_simp; done) | (go_simp; rfl))) ?_
            simp only [Act.put, List.setIfInBounds_toArray, List.set_cons_succ, List.set_cons_zero]
            refine Ev.ev_off (by kernel_rfl) rfl (Ev.onw_idle (by decide)) ?_
            simp only [Act.put, List.setIfInBounds_toArray, List.set_cons_succ, List.set_cons_zero]
            refine Ev.ev_off (by kernel_rfl) rfl (Ev.onw_idle (by decide)) ?_
            simp only [Act.put, List.setIfInBounds_toArray, List.set_cons_succ, List.set_cons_zero]
            refine Ev.ev_off (by kernel_rfl) rfl (Ev.onw_idle (by decide)) ?_
            simp only [Act.put, List.setIfInBounds_toArray, List.set_cons_succ, List.set_cons_zero]
            refine Ev.ev_off (by kernel_rfl) rfl (Ev.onw_idle (by decide)) ?_
            simp only [Act.put, List.setIfInBounds_toArray, List.set_cons_succ, List.set_cons_zero]
            refine Ev.ev_off (by kernel_rfl) rfl (Ev.onw_idle (by decide)) ?_
            simp only [Act.put, List.setIfInBounds_toArray, List.set_cons_succ, List.set_cons_zero]
            refine Ev.ev_off (by kernel_rfl) rfl (Ev.onw_idle (by decide)) ?_
            simp only [Act.put, List.setIfInBounds_toArray, List.set_cons_succ, List.set_cons_zero]
            refine Ev.ev_step (v := .bool false) rfl rfl (Ev.onw_pure (by decide) (fun _ => by first | rfl | (go_simp; done) | (go_simp; rfl))) ?_
            simp only [Act.put, List.setIfInBounds_toArray, List.set_cons_succ, List.set_cons_zero]
            refine Ev.ev_step (v := undef) rfl rfl (Ev.onw_store 104 (.tmp 6) (.tmp 64) rfl rfl rfl rfl (by kernel_rfl) (en_one _)) ?_
            simp only [Act.put]
            refine Ev.ev_step (v := .bool false) rfl rfl (Ev.onw_pure (by decide) (fun _ => by first | rfl | (go_simp; done) | (go_simp; rfl))) ?_
            simp only [Act.put, List.setIfInBounds_toArray, List.set_cons_succ, List.set_cons_zero]
            refine Ev.ev_nil (fun w_e hw_e => ?_)
            obtain ⟨hM_e, hX_e⟩ := Ev.onw_end hw_e (by decide)
            clear hw_e
            go_wp2
            refine bodyPost_ret (Ev.results_c1 rfl rfl hX_e Tryd.underlying104 rfl (by kernel_rfl) rfl) rfl ⟨?_, hM_e.after TB.out TB.out.size (fun q hq => by omega)⟩
            unfold doesF okB
            rw [← hN]; simp only []; rw [q1, q2]
            rfl
          · cases q3 : (a.text.toList == o.a.text.toList)
            · refine Ev.region_ev (Ev.Onw Wt (w.heap.size + 1 + 1) 104 z104.c e.c 23) (by kernel_rfl) (by kernel_rfl) (Ev.onw_start T6.out) ?_
              refine Ev.ev_step (v := .agg e.c) rfl rfl (Ev.onw_read (by decide) (fun w2 hm => Ev.run_load_whole 104 (.tmp 5) rfl (w.heap.size + 1) rfl 104 _ _ (hm.blk T5.out (by omega)) Tryd.underlying104 rfl (by kernel_rfl))) ?_
              simp only [Act.put, List.setIfInBounds_toArray, List.set_cons_succ, List.set_cons_zero]
              refine Ev.ev_step (v := .pointer (some ⟨γ.1, 0, none⟩)) rfl rfl (Ev.onw_pure (by decide) (fun _ => by first | rfl | (go_simp; done) | (go_simp; rfl))) ?_
              simp only [Act.put, List.setIfInBounds_toArray, List.set_cons_succ, List.set_cons_zero]
              refine Ev.ev_step (v := .int .i64 a.kind) rfl rfl (Ev.onw_read (by decide) (fun w2 hm => by have c : w2.cell? ⟨γ.1, 0, none⟩ = some (.int .i64 a.kind) := blk_cell (hm.blk TA.out NA.out) 0; go_simp)) ?_
              simp only [Act.put, List.setIfInBounds_toArray, List.set_cons_succ, List.set_cons_zero]
              refine Ev.ev_step (v := .pointer (some ⟨w.heap.size, 11, none⟩)) rfl rfl (Ev.onw_pure (by decide) (fun _ => by first | rfl | (go_simp; done) | (go_simp; rfl))) ?_
              simp only [Act.put, List.setIfInBounds_toArray, List.set_cons_succ, List.set_cons_zero]
              refine Ev.ev_step (v := .pointer (some ⟨w.heap.size, 11, none⟩)) rfl rfl (Ev.onw_pure (by decide) (fun _ => by first | rfl | (go_simp; done) | (go_simp; rfl))) ?_
              simp only [Act.put, List.setIfInBounds_toArray, List.set_cons_succ, List.set_cons_zero]
              refine Ev.ev_step (v := .int .i64 o.a.kind) rfl rfl (Ev.onw_read (by decide) (fun w2 hm => by have c : w2.cell? ⟨w.heap.size, 11, none⟩ = some (.int .i64 o.a.kind) := blk_cell (hm.blk T4.out (by omega)) 11; go_simp)) ?_
              simp only [Act.put, List.setIfInBounds_toArray, List.set_cons_succ, List.set_cons_zero]
              refine Ev.ev_step (v := .bool (a.kind == o.a.kind)) rfl rfl (Ev.onw_pure (by decide) (fun _ => by first | rfl | (go_simp; done) | (go_simp; rfl))) ?_
              simp only [Act.put, List.setIfInBounds_toArray, List.set_cons_succ, List.set_cons_zero]; rw [q1]
              refine Ev.ev_step (v := .bool true) rfl rfl (Ev.onw_pure (by decide) (fun _ => by first | rfl | (go_simp; done) | (go_simp; rfl))) ?_
              simp only [Act.put, List.setIfInBounds_toArray, List.set_cons_succ, List.set_cons_zero]
              refine Ev.ev_on (v := .pointer (some ⟨γ.1, 3, none⟩)) (by kernel_rfl) rfl (Ev.onw_pure (by decide) (fun _ => by first | rfl | (go_simp; done) | (go_simp; rfl))) ?_
              simp only [Act.put, List.setIfInBounds_toArray, List.set_cons_succ, List.set_cons_zero]
              refine Ev.ev_on (v := .int .u64 a.num) (by kernel_rfl) rfl (Ev.onw_read (by decide) (fun w2 hm => by have c : w2.cell? ⟨γ.1, 3, none⟩ = some (.int .u64 a.num) := blk_cell (hm.blk TA.out NA.out) 3; go_simp)) ?_
              simp only [Act.put, List.setIfInBounds_toArray, List.set_cons_succ, List.set_cons_zero]
              refine Ev.ev_on (v := .pointer (some ⟨w.heap.size, 11, none⟩)) (by kernel_rfl) rfl (Ev.onw_pure (by decide) (fun _ => by first | rfl | (go_simp; done) | (go_simp; rfl))) ?_
              simp only [Act.put, List.setIfInBounds_toArray, List.set_cons_succ, List.set_cons_zero]
              refine Ev.ev_on (v := .pointer (some ⟨w.heap.size, 14, none⟩)) (by kernel_rfl) rfl (Ev.onw_pure (by decide) (fun _ => by first | rfl | (go_simp; done) | (go_simp; rfl))) ?_
              simp only [Act.put, List.setIfInBounds_toArray, List.set_cons_succ, List.set_cons_zero]
              refine Ev.ev_on (v := .int .u64 o.a.num) (by kernel_rfl) rfl (Ev.onw_read (by decide) (fun w2 hm => by have c : w2.cell? ⟨w.heap.size, 14, none⟩ = some (.int .u64 o.a.num) := blk_cell (hm.blk T4.out (by omega)) 14; go_simp)) ?_
              simp only [Act.put, List.setIfInBounds_toArray, List.set_cons_succ, List.set_cons_zero]
              refine Ev.ev_on (v := .bool (a.num == o.a.num)) (by kernel_rfl) rfl (Ev.onw_pure (by decide) (fun _ => by first | rfl | (go_simp; done) | (go_simp; rfl))) ?_
              simp only [Act.put, List.setIfInBounds_toArray, List.set_cons_succ, List.set_cons_zero]; rw [q2]
              refine Ev.ev_step (v := .bool true) rfl rfl (Ev.onw_pure (by decide) (fun _ => by first | rfl | (go_simp; done) | (go_simp; rfl))) ?_
              simp only [Act.put, List.setIfInBounds_toArray, List.set_cons_succ, List.set_cons_zero]
              refine Ev.ev_step (v := .bool true) rfl rfl (Ev.onw_pure (by decide) (fun _ => by first | rfl | (go_simp; done) | (go_simp; rfl))) ?_
              simp only [Act.put, List.setIfInBounds_toArray, List.set_cons_succ, List.set_cons_zero]
              refine Ev.ev_on (v := .pointer (some ⟨γ.1, 4, none⟩)) (by kernel_rfl) rfl (Ev.onw_pure (by decide) (fun _ => by first | rfl | (go_simp; done) | (go_simp; rfl))) ?_
              simp only [Act.put, List.setIfInBounds_toArray, List.set_cons_succ, List.set_cons_zero]
              refine Ev.ev_on (v := .string a.text) (by kernel_rfl) rfl (Ev.onw_read (by decide) (fun w2 hm => by have c : w2.cell? ⟨γ.1, 4, none⟩ = some (.string a.text) := blk_cell (hm.blk TA.out NA.out) 4; go_simp)) ?_
              simp only [Act.put, List.setIfInBounds_toArray, List.set_cons_succ, List.set_cons_zero]
              refine Ev.ev_on (v := .pointer (some ⟨w.heap.size, 11, none⟩)) (by kernel_rfl) rfl (Ev.onw_pure (by decide) (fun _ => by first | rfl | (go_simp; done) | (go_simp; rfl))) ?_
              simp only [Act.put, List.setIfInBounds_toArray, List.set_cons_succ, List.set_cons_zero]
              refine Ev.ev_on (v := .pointer (some ⟨w.heap.size, 15, none⟩)) (by kernel_rfl) rfl (Ev.onw_pure (by decide) (fun _ => by first | rfl | (go_simp; done) | (go_simp; rfl))) ?_
              simp only [Act.put, List.setIfInBounds_toArray, List.set_cons_succ, List.set_cons_zero]
              refine Ev.ev_on (v := .string o.a.text) (by kernel_rfl) rfl (Ev.onw_read (by decide) (fun w2 hm => by have c : w2.cell? ⟨w.heap.size, 15, none⟩ = some (.string o.a.text) := blk_cell (hm.blk T4.out (by omega)) 15; go_simp)) ?_
              simp only [Act.put, List.setIfInBounds_toArray, List.set_cons_succ, List.set_cons_zero]
              refine Ev.ev_on (v := .bool (a.text.toList == o.a.text.toList)) (by kernel_rfl) rfl (Ev.onw_pure (by decide) (fun _ => by first | rfl | (go_simp; done) | (go_simp; rfl))) ?_
              simp only [Act.put, List.setIfInBounds_toArray, List.set_cons_succ, List.set_cons_zero]; rw [q3]
              refine Ev.ev_step (v := .bool false) rfl rfl (Ev.onw_pure (by decide) (fun _ => by first | rfl | (go_simp; done) | (go_simp; rfl))) ?_
              simp only [Act.put, List.setIfInBounds_toArray, List.set_cons_succ, List.set_cons_zero]
              refine Ev.ev_step (v := undef) rfl rfl (Ev.onw_store 104 (.tmp 6) (.tmp 64) rfl rfl rfl rfl (by kernel_rfl) (en_one _)) ?_
              simp only [Act.put]
              refine Ev.ev_step (v := .bool false) rfl rfl (Ev.onw_pure (by decide) (fun _ => by first | rfl | (go_simp; done) | (go_simp; rfl))) ?_
              simp only [Act.put, List.setIfInBounds_toArray, List.set_cons_succ, List.set_cons_zero]
              refine Ev.ev_nil (fun w_e hw_e => ?_)
              obtain ⟨hM_e, hX_e⟩ := Ev.onw_end hw_e (by decide)
              clear hw_e
              go_wp2
              refine bodyPost_ret (Ev.results_c1 rfl rfl hX_e Tryd.underlying104 rfl (by kernel_rfl) rfl) rfl ⟨?_, hM_e.after TB.out TB.out.size (fun q hq => by omega)⟩
              unfold doesF okB
              rw [← hN]; simp only []; rw [q1, q2, q3]
              rfl
            · refine Ev.region_ev (Ev.Onw Wt (w.heap.size + 1 + 1) 104 z104.c e.c 23) (by kernel_rfl) (by kernel_rfl) (Ev.onw_start T6.out) ?_
              refine Ev.ev_step (v := .agg e.c) rfl rfl (Ev.onw_read (by decide) (fun w2 hm => Ev.run_load_whole 104 (.tmp 5) rfl (w.heap.size + 1) rfl 104 _ _ (hm.blk T5.out (by omega)) Tryd.underlying104 rfl (by kernel_rfl))) ?_
              simp only [Act.put, List.setIfInBounds_toArray, List.set_cons_succ, List.set_cons_zero]
              refine Ev.ev_step (v := .pointer (some ⟨γ.1, 0, none⟩)) rfl rfl (Ev.onw_pure (by decide) (fun _ => by first | rfl | (go_simp; done) | (go_simp; rfl))) ?_
              simp only [Act.put, List.setIfInBounds_toArray, List.set_cons_succ, List.set_cons_zero]
              refine Ev.ev_step (v := .int .i64 a.kind) rfl rfl (Ev.onw_read (by decide) (fun w2 hm => by have c : w2.cell? ⟨γ.1, 0, none⟩ = some (.int .i64 a.kind) := blk_cell (hm.blk TA.out NA.out) 0; go_simp)) ?_
              simp only [Act.put, List.setIfInBounds_toArray, List.set_cons_succ, List.set_cons_zero]
              refine Ev.ev_step (v := .pointer (some ⟨w.heap.size, 11, none⟩)) rfl rfl (Ev.onw_pure (by decide) (fun _ => by first | rfl | (go_simp; done) | (go_simp; rfl))) ?_
              simp only [Act.put, List.setIfInBounds_toArray, List.set_cons_succ, List.set_cons_zero]
              refine Ev.ev_step (v := .pointer (some ⟨w.heap.size, 11, none⟩)) rfl rfl (Ev.onw_pure (by decide) (fun _ => by first | rfl | (go_simp; done) | (go_simp; rfl))) ?_
              simp only [Act.put, List.setIfInBounds_toArray, List.set_cons_succ, List.set_cons_zero]
              refine Ev.ev_step (v := .int .i64 o.a.kind) rfl rfl (Ev.onw_read (by decide) (fun w2 hm => by have c : w2.cell? ⟨w.heap.size, 11, none⟩ = some (.int .i64 o.a.kind) := blk_cell (hm.blk T4.out (by omega)) 11; go_simp)) ?_
              simp only [Act.put, List.setIfInBounds_toArray, List.set_cons_succ, List.set_cons_zero]
              refine Ev.ev_step (v := .bool (a.kind == o.a.kind)) rfl rfl (Ev.onw_pure (by decide) (fun _ => by first | rfl | (go_simp; done) | (go_simp; rfl))) ?_
              simp only [Act.put, List.setIfInBounds_toArray, List.set_cons_succ, List.set_cons_zero]; rw [q1]
              refine Ev.ev_step (v := .bool true) rfl rfl (Ev.onw_pure (by decide) (fun _ => by first | rfl | (go_simp; done) | (go_simp; rfl))) ?_
              simp only [Act.put, List.setIfInBounds_toArray, List.set_cons_succ, List.set_cons_zero]
              refine Ev.ev_on (v := .pointer (some ⟨γ.1, 3, none⟩)) (by kernel_rfl) rfl (Ev.onw_pure (by decide) (fun _ => by first | rfl | (go_simp; done) | (go_simp; rfl))) ?_
              simp only [Act.put, List.setIfInBounds_toArray, List.set_cons_succ, List.set_cons_zero]
              refine Ev.ev_on (v := .int .u64 a.num) (by kernel_rfl) rfl (Ev.onw_read (by decide) (fun w2 hm => by have c : w2.cell? ⟨γ.1, 3, none⟩ = some (.int .u64 a.num) := blk_cell (hm.blk TA.out NA.out) 3; go_simp)) ?_
              simp only [Act.put, List.setIfInBounds_toArray, List.set_cons_succ, List.set_cons_zero]
              refine Ev.ev_on (v := .pointer (some ⟨w.heap.size, 11, none⟩)) (by kernel_rfl) rfl (Ev.onw_pure (by decide) (fun _ => by first | rfl | (go_simp; done) | (go_simp; rfl))) ?_
              simp only [Act.put, List.setIfInBounds_toArray, List.set_cons_succ, List.set_cons_zero]
              refine Ev.ev_on (v := .pointer (some ⟨w.heap.size, 14, none⟩)) (by kernel_rfl) rfl (Ev.onw_pure (by decide) (fun _ => by first | rfl | (go_simp; done) | (go_simp; rfl))) ?_
              simp only [Act.put, List.setIfInBounds_toArray, List.set_cons_succ, List.set_cons_zero]
              refine Ev.ev_on (v := .int .u64 o.a.num) (by kernel_rfl) rfl (Ev.onw_read (by decide) (fun w2 hm => by have c : w2.cell? ⟨w.heap.size, 14, none⟩ = some (.int .u64 o.a.num) := blk_cell (hm.blk T4.out (by omega)) 14; go_simp)) ?_
              simp only [Act.put, List.setIfInBounds_toArray, List.set_cons_succ, List.set_cons_zero]
              refine Ev.ev_on (v := .bool (a.num == o.a.num)) (by kernel_rfl) rfl (Ev.onw_pure (by decide) (fun _ => by first | rfl | (go_simp; done) | (go_simp; rfl))) ?_
              simp only [Act.put, List.setIfInBounds_toArray, List.set_cons_succ, List.set_cons_zero]; rw [q2]
              refine Ev.ev_step (v := .bool true) rfl rfl (Ev.onw_pure (by decide) (fun _ => by first | rfl | (go_simp; done) | (go_simp; rfl))) ?_
              simp only [Act.put, List.setIfInBounds_toArray, List.set_cons_succ, List.set_cons_zero]
              refine Ev.ev_step (v := .bool true) rfl rfl (Ev.onw_pure (by decide) (fun _ => by first | rfl | (go_simp; done) | (go_simp; rfl))) ?_
              simp only [Act.put, List.setIfInBounds_toArray, List.set_cons_succ, List.set_cons_zero]
              refine Ev.ev_on (v := .pointer (some ⟨γ.1, 4, none⟩)) (by kernel_rfl) rfl (Ev.onw_pure (by decide) (fun _ => by first | rfl | (go_simp; done) | (go_simp; rfl))) ?_
              simp only [Act.put, List.setIfInBounds_toArray, List.set_cons_succ, List.set_cons_zero]
              refine Ev.ev_on (v := .string a.text) (by kernel_rfl) rfl (Ev.onw_read (by decide) (fun w2 hm => by have c : w2.cell? ⟨γ.1, 4, none⟩ = some (.string a.text) := blk_cell (hm.blk TA.out NA.out) 4; go_simp)) ?_
              simp only [Act.put, List.setIfInBounds_toArray, List.set_cons_succ, List.set_cons_zero]
              refine Ev.ev_on (v := .pointer (some ⟨w.heap.size, 11, none⟩)) (by kernel_rfl) rfl (Ev.onw_pure (by decide) (fun _ => by first | rfl | (go_simp; done) | (go_simp; rfl))) ?_
              simp only [Act.put, List.setIfInBounds_toArray, List.set_cons_succ, List.set_cons_zero]
              refine Ev.ev_on (v := .pointer (some ⟨w.heap.size, 15, none⟩)) (by kernel_rfl) rfl (Ev.onw_pure (by decide) (fun _ => by first | rfl | (go_simp; done) | (go_simp; rfl))) ?_
              simp only [Act.put, List.setIfInBounds_toArray, List.set_cons_succ, List.set_cons_zero]
              refine Ev.ev_on (v := .string o.a.text) (by kernel_rfl) rfl (Ev.onw_read (by decide) (fun w2 hm => by have c : w2.cell? ⟨w.heap.size, 15, none⟩ = some (.string o.a.text) := blk_cell (hm.blk T4.out (by omega)) 15; go_simp)) ?_
              simp only [Act.put, List.setIfInBounds_toArray, List.set_cons_succ, List.set_cons_zero]
              refine Ev.ev_on (v := .bool (a.text.toList == o.a.text.toList)) (by kernel_rfl) rfl (Ev.onw_pure (by decide) (fun _ => by first | rfl | (go_simp; done) | (go_simp; rfl))) ?_
              simp only [Act.put, List.setIfInBounds_toArray, List.set_cons_succ, List.set_cons_zero]; rw [q3]
              refine Ev.ev_step (v := .bool true) rfl rfl (Ev.onw_pure (by decide) (fun _ => by first | rfl | (go_simp; done) | (go_simp; rfl))) ?_
              simp only [Act.put, List.setIfInBounds_toArray, List.set_cons_succ, List.set_cons_zero]
              refine Ev.ev_step (v := undef) rfl rfl (Ev.onw_store 104 (.tmp 6) (.tmp 64) rfl rfl rfl rfl (by kernel_rfl) (en_one _)) ?_
              simp only [Act.put]
              refine Ev.ev_step (v := .bool true) rfl rfl (Ev.onw_pure (by decide) (fun _ => by first | rfl | (go_simp; done) | (go_simp; rfl))) ?_
              simp only [Act.put, List.setIfInBounds_toArray, List.set_cons_succ, List.set_cons_zero]
              refine Ev.ev_nil (fun w_e hw_e => ?_)
              obtain ⟨hM_e, hX_e⟩ := Ev.onw_end hw_e (by decide)
              clear hw_e
              go_wp2
              refine bodyPost_ret (Ev.results_c1 rfl rfl hX_e Tryd.underlying104 rfl (by kernel_rfl) rfl) rfl ⟨?_, hM_e.after TB.out TB.out.size (fun q hq => by omega)⟩
              unfold doesF okB
              rw [← hN]; simp only []; rw [q1, q2, q3]
              rfl
      · go_wp2_with (refine gate_ (.store 104 (.tmp 5) (.tmp 63)) rfl ?_; refine ev_store_row (.store 104 (.tmp 5) (.tmp 63)) rfl rfl rfl 104 (.tmp 5) (.tmp 63) rfl (w.heap.size + 1) z104.c rfl rfl 104 e.c KE5.out ?y1 rfl (en_one _) ?_; (case y1 => kernel_rfl); intro Wt hw1 hm1; have T5 := Aside0.mk hw1; have T4 := Aside0.mk (hm1.blk KE4.out (by omega)); have T6 := Aside0.mk (hm1.blk KE6.out (by omega)); have TA2 := Aside0.mk (hm1.blk TA.out N1.out); have TB := Aside0.mk (hm1.after BE.out BE.out.size (fun q hq => by omega)); clear TA; have TA := TA2; clear TA2 hw1 hm1)
        cases q1 : (a.kind == o.a.kind)
        · refine Ev.region_ev (Ev.Onw Wt (w.heap.size + 1 + 1) 104 z104.c z104.c 23) (by kernel_rfl) (by kernel_rfl) (Ev.onw_start T6.out) ?_
          refine Ev.ev_step (v := .agg z104.c) rfl rfl (Ev.onw_read (by decide) (fun w2 hm => Ev.run_load_whole 104 (.tmp 5) rfl (w.heap.size + 1) rfl 104 _ _ (hm.blk T5.out (by omega)) Tryd.underlying104 rfl (by kernel_rfl))) ?_
          simp only [Act.put, List.setIfInBounds_toArray, List.set_cons_succ, List.set_cons_zero]
          refine Ev.ev_step (v := .pointer (some ⟨γ.1, 0, none⟩)) rfl rfl (Ev.onw_pure (by decide) (fun _ => by first | rfl | (go_simp; done) | (go_simp; rfl))) ?_
          simp only [Act.put, List.setIfInBounds_toArray, List.set_cons_succ, List.set_cons_zero]
          refine Ev.ev_step (v := .int .i64 a.kind) rfl rfl (Ev.onw_read (by decide) (fun w2 hm => by have c : w2.cell? ⟨γ.1, 0, none⟩ = some (.int .i64 a.kind) := blk_cell (hm.blk TA.out NA.out) 0; go_simp)) ?_
          simp only [Act.put, List.setIfInBounds_toArray, List.set_cons_succ, List.set_cons_zero]
          refine Ev.ev_step (v := .pointer (some ⟨w.heap.size, 11, none⟩)) rfl rfl (Ev.onw_pure (by decide) (fun _ => by first | rfl | (go_simp; done) | (go_simp; rfl))) ?_
          simp only [Act.put, List.setIfInBounds_toArray, List.set_cons_succ, List.set_cons_zero]
          refine Ev.ev_step (v := .pointer (some ⟨w.heap.size, 11, none⟩)) rfl rfl (Ev.onw_pure (by decide) (fun _ => by first | rfl | (go_simp; done) | (go_simp; rfl))) ?_
          simp only [Act.put, List.setIfInBounds_toArray, List.set_cons_succ, List.set_cons_zero]
          refine Ev.ev_step (v := .int .i64 o.a.kind) rfl rfl (Ev.onw_read (by decide) (fun w2 hm => by have c : w2.cell? ⟨w.heap.size, 11, none⟩ = some (.int .i64 o.a.kind) := blk_cell (hm.blk T4.out (by omega)) 11; go_simp)) ?_
          simp only [Act.put, List.setIfInBounds_toArray, List.set_cons_succ, List.set_cons_zero]
          refine Ev.ev_step (v := .bool (a.kind == o.a.kind)) rfl rfl (Ev.onw_pure (by decide) (fun _ => by first | rfl | (go_simp; done) | (go_simp; rfl))) ?_
          simp only [Act.put, List.setIfInBounds_toArray, List.set_cons_succ, List.set_cons_zero]; rw [q1]
          refine Ev.ev_step (v := .bool false) rfl rfl (Ev.onw_pure (by decide) (fun _ => by first | rfl | (go_simp; done) | (go_simp; rfl))) ?_
          simp only [Act.put, List.setIfInBounds_toArray, List.set_cons_succ, List.set_cons_zero]
          refine Ev.ev_off (by kernel_rfl) rfl (Ev.onw_idle (by decide)) ?_
          simp only [Act.put, List.setIfInBounds_toArray, List.set_cons_succ, List.set_cons_zero]
          refine Ev.ev_off (by kernel_rfl) rfl (Ev.onw_idle (by decide)) ?_
          simp only [Act.put, List.setIfInBounds_toArray, List.set_cons_succ, List.set_cons_zero]
          refine Ev.ev_off (by kernel_rfl) rfl (Ev.onw_idle (by decide)) ?_
          simp only [Act.put, List.setIfInBounds_toArray, List.set_cons_succ, List.set_cons_zero]
          refine Ev.ev_off (by kernel_rfl) rfl (Ev.onw_idle (by decide)) ?_
          simp only [Act.put, List.setIfInBounds_toArray, List.set_cons_succ, List.set_cons_zero]
          refine Ev.ev_off (by kernel_rfl) rfl (Ev.onw_idle (by decide)) ?_
          simp only [Act.put, List.setIfInBounds_toArray, List.set_cons_succ, List.set_cons_zero]
          refine Ev.ev_off (by kernel_rfl) rfl (Ev.onw_idle (by decide)) ?_
          simp only [Act.put, List.setIfInBounds_toArray, List.set_cons_succ, List.set_cons_zero]
          refine Ev.ev_step (v := .bool false) rfl rfl (Ev.onw_pure (by decide) (fun _ => by first | rfl | (go_simp; done) | (go_simp; rfl))) ?_
          simp only [Act.put, List.setIfInBounds_toArray, List.set_cons_succ, List.set_cons_zero]
          refine Ev.ev_step (v := .bool false) rfl rfl (Ev.onw_pure (by decide) (fun _ => by first | rfl | (go_simp; done) | (go_simp; rfl))) ?_
          simp only [Act.put, List.setIfInBounds_toArray, List.set_cons_succ, List.set_cons_zero]
          refine Ev.ev_off (by kernel_rfl) rfl (Ev.onw_idle (by decide)) ?_
          simp only [Act.put, List.setIfInBounds_toArray, List.set_cons_succ, List.set_cons_zero]
          refine Ev.ev_off (by kernel_rfl) rfl (Ev.onw_idle (by decide)) ?_
          simp only [Act.put, List.setIfInBounds_toArray, List.set_cons_succ, List.set_cons_zero]
          refine Ev.ev_off (by kernel_rfl) rfl (Ev.onw_idle (by decide)) ?_
          simp only [Act.put, List.setIfInBounds_toArray, List.set_cons_succ, List.set_cons_zero]
          refine Ev.ev_off (by kernel_rfl) rfl (Ev.onw_idle (by decide)) ?_
          simp only [Act.put, List.setIfInBounds_toArray, List.set_cons_succ, List.set_cons_zero]
          refine Ev.ev_off (by kernel_rfl) rfl (Ev.onw_idle (by decide)) ?_
          simp only [Act.put, List.setIfInBounds_toArray, List.set_cons_succ, List.set_cons_zero]
          refine Ev.ev_off (by kernel_rfl) rfl (Ev.onw_idle (by decide)) ?_
          simp only [Act.put, List.setIfInBounds_toArray, List.set_cons_succ, List.set_cons_zero]
          refine Ev.ev_step (v := .bool false) rfl rfl (Ev.onw_pure (by decide) (fun _ => by first | rfl | (go_simp; done) | (go_simp; rfl))) ?_
          simp only [Act.put, List.setIfInBounds_toArray, List.set_cons_succ, List.set_cons_zero]
          refine Ev.ev_step (v := undef) rfl rfl (Ev.onw_store 104 (.tmp 6) (.tmp 64) rfl rfl rfl rfl (by kernel_rfl) (en_one _)) ?_
          simp only [Act.put]
          refine Ev.ev_step (v := .bool false) rfl rfl (Ev.onw_pure (by decide) (fun _ => by first | rfl | (go_simp; done) | (go_simp; rfl))) ?_
          simp only [Act.put, List.setIfInBounds_toArray, List.set_cons_succ, List.set_cons_zero]
          refine Ev.ev_nil (fun w_e hw_e => ?_)
          obtain ⟨hM_e, hX_e⟩ := Ev.onw_end hw_e (by decide)
          clear hw_e
          go_wp2
          refine bodyPost_ret (Ev.results_c1 rfl rfl hX_e Tryd.underlying104 rfl (by kernel_rfl) rfl) rfl ⟨?_, hM_e.after TB.out TB.out.size (fun q hq => by omega)⟩
          unfold doesF okB
          rw [← hN]; simp only []; rw [q1]
          rfl
        · cases q2 : (a.num == o.a.num)
          · refine Ev.region_ev (Ev.Onw Wt (w.heap.size + 1 + 1) 104 z104.c z104.c 23) (by kernel_rfl) (by kernel_rfl) (Ev.onw_start T6.out) ?_
            refine Ev.ev_step (v := .agg z104.c) rfl rfl (Ev.onw_read (by decide) (fun w2 hm => Ev.run_load_whole 104 (.tmp 5) rfl (w.heap.size + 1) rfl 104 _ _ (hm.blk T5.out (by omega)) Tryd.underlying104 rfl (by kernel_rfl))) ?_
            simp only [Act.put, List.setIfInBounds_toArray, List.set_cons_succ, List.set_cons_zero]
            refine Ev.ev_step (v := .pointer (some ⟨γ.1, 0, none⟩)) rfl rfl (Ev.onw_pure (by decide) (fun _ => by first | rfl | (go_simp; done) | (go_simp; rfl))) ?_
            simp only [Act.put, List.setIfInBounds_toArray, List.set_cons_succ, List.set_cons_zero]
            refine Ev.ev_step (v := .int .i64 a.kind) rfl rfl (Ev.onw_read (by decide) (fun w2 hm => by have c : w2.cell? ⟨γ.1, 0, none⟩ = some (.int .i64 a.kind) := blk_cell (hm.blk TA.out NA.out) 0; go_simp)) ?_
            simp only [Act.put, List.setIfInBounds_toArray, List.set_cons_succ, List.set_cons_zero]
            refine Ev.ev_step (v := .pointer (some ⟨w.heap.size, 11, none⟩)) rfl rfl (Ev.onw_pure (by decide) (fun _ => by first | rfl | (go_simp; done) | (go_simp; rfl))) ?_
            simp only [Act.put, List.setIfInBounds_toArray, List.set_cons_succ, List.set_cons_zero]
            refine Ev.ev_step (v := .pointer (some ⟨w.heap.size, 11, none⟩)) rfl rfl (Ev.onw_pure (by decide) (fun _ => by first | rfl | (go_simp; done) | (go_simp; rfl))) ?_
            simp only [Act.put, List.setIfInBounds_toArray, List.set_cons_succ, List.set_cons_zero]
            refine Ev.ev_step (v := .int .i64 o.a.kind) rfl rfl (Ev.onw_read (by decide) (fun w2 hm => by have c : w2.cell? ⟨w.heap.size, 11, none⟩ = some (.int .i64 o.a.kind) := blk_cell (hm.blk T4.out (by omega)) 11; go_simp)) ?_
            simp only [Act.put, List.setIfInBounds_toArray, List.set_cons_succ, List.set_cons_zero]
            refine Ev.ev_step (v := .bool (a.kind == o.a.kind)) rfl rfl (Ev.onw_pure (by decide) (fun _ => by first | rfl | (go_simp; done) | (go_simp; rfl))) ?_
            simp only [Act.put, List.setIfInBounds_toArray, List.set_cons_succ, List.set_cons_zero]; rw [q1]
            refine Ev.ev_step (v := .bool true) rfl rfl (Ev.onw_pure (by decide) (fun _ => by first | rfl | (go_simp; done) | (go_simp; rfl))) ?_
            simp only [Act.put, List.setIfInBounds_toArray, List.set_cons_succ, List.set_cons_zero]
            refine Ev.ev_on (v := .pointer (some ⟨γ.1, 3, none⟩)) (by kernel_rfl) rfl (Ev.onw_pure (by decide) (fun _ => by first | rfl | (go_simp; done) | (go_simp; rfl))) ?_
            simp only [Act.put, List.setIfInBounds_toArray, List.set_cons_succ, List.set_cons_zero]
            refine Ev.ev_on (v := .int .u64 a.num) (by kernel_rfl) rfl (Ev.onw_read (by decide) (fun w2 hm => by have c : w2.cell? ⟨γ.1, 3, none⟩ = some (.int .u64 a.num) := blk_cell (hm.blk TA.out NA.out) 3; go_simp)) ?_
            simp only [Act.put, List.setIfInBounds_toArray, List.set_cons_succ, List.set_cons_zero]
            refine Ev.ev_on (v := .pointer (some ⟨w.heap.size, 11, none⟩)) (by kernel_rfl) rfl (Ev.onw_pure (by decide) (fun _ => by first | rfl | (go_simp; done) | (go_simp; rfl))) ?_
            simp only [Act.put, List.setIfInBounds_toArray, List.set_cons_succ, List.set_cons_zero]
            refine Ev.ev_on (v := .pointer (some ⟨w.heap.size, 14, none⟩)) (by kernel_rfl) rfl (Ev.onw_pure (by decide) (fun _ => by first | rfl | (go_simp; done) | (go_simp; rfl))) ?_
            simp only [Act.put, List.setIfInBounds_toArray, List.set_cons_succ, List.set_cons_zero]
            refine Ev.ev_on (v := .int .u64 o.a.num) (by kernel_rfl) rfl (Ev.onw_read (by decide) (fun w2 hm => by have c : w2.cell? ⟨w.heap.size, 14, none⟩ = some (.int .u64 o.a.num) := blk_cell (hm.blk T4.out (by omega)) 14; go_simp)) ?_
            simp only [Act.put, List.setIfInBounds_toArray, List.set_cons_succ, List.set_cons_zero]
            refine Ev.ev_on (v := .bool (a.num == o.a.num)) (by kernel_rfl) rfl (Ev.onw_pure (by decide) (fun _ => by first | rfl | (go_simp; done) | (go_simp; rfl))) ?_
            simp only [Act.put, List.setIfInBounds_toArray, List.set_cons_succ, List.set_cons_zero]; rw [q2]
            refine Ev.ev_step (v := .bool false) rfl rfl (Ev.onw_pure (by decide) (fun _ => by first | rfl | (go_simp; done) | (go_simp; rfl))) ?_
            simp only [Act.put, List.setIfInBounds_toArray, List.set_cons_succ, List.set_cons_zero]
            refine Ev.ev_step (v := .bool false) rfl rfl (Ev.onw_pure (by decide) (fun _ => by first | rfl | (go_simp; done) | (go_simp; rfl))) ?_
            simp only [Act.put, List.setIfInBounds_toArray, List.set_cons_succ, List.set_cons_zero]
            refine Ev.ev_off (by kernel_rfl) rfl (Ev.onw_idle (by decide)) ?_
            simp only [Act.put, List.setIfInBounds_toArray, List.set_cons_succ, List.set_cons_zero]
            refine Ev.ev_off (by kernel_rfl) rfl (Ev.onw_idle (by decide)) ?_
            simp only [Act.put, List.setIfInBounds_toArray, List.set_cons_succ, List.set_cons_zero]
            refine Ev.ev_off (by kernel_rfl) rfl (Ev.onw_idle (by decide)) ?_
            simp only [Act.put, List.setIfInBounds_toArray, List.set_cons_succ, List.set_cons_zero]
            refine Ev.ev_off (by kernel_rfl) rfl (Ev.onw_idle (by decide)) ?_
            simp only [Act.put, List.setIfInBounds_toArray, List.set_cons_succ, List.set_cons_zero]
            refine Ev.ev_off (by kernel_rfl) rfl (Ev.onw_idle (by decide)) ?_
            simp only [Act.put, List.setIfInBounds_toArray, List.set_cons_succ, List.set_cons_zero]
            refine Ev.ev_off (by kernel_rfl) rfl (Ev.onw_idle (by decide)) ?_
            simp only [Act.put, List.setIfInBounds_toArray, List.set_cons_succ, List.set_cons_zero]
            refine Ev.ev_step (v := .bool false) rfl rfl (Ev.onw_pure (by decide) (fun _ => by first | rfl | (go_simp; done) | (go_simp; rfl))) ?_
            simp only [Act.put, List.setIfInBounds_toArray, List.set_cons_succ, List.set_cons_zero]
            refine Ev.ev_step (v := undef) rfl rfl (Ev.onw_store 104 (.tmp 6) (.tmp 64) rfl rfl rfl rfl (by kernel_rfl) (en_one _)) ?_
            simp only [Act.put]
            refine Ev.ev_step (v := .bool false) rfl rfl (Ev.onw_pure (by decide) (fun _ => by first | rfl | (go_simp; done) | (go_simp; rfl))) ?_
            simp only [Act.put, List.setIfInBounds_toArray, List.set_cons_succ, List.set_cons_zero]
            refine Ev.ev_nil (fun w_e hw_e => ?_)
            obtain ⟨hM_e, hX_e⟩ := Ev.onw_end hw_e (by decide)
            clear hw_e
            go_wp2
            refine bodyPost_ret (Ev.results_c1 rfl rfl hX_e Tryd.underlying104 rfl (by kernel_rfl) rfl) rfl ⟨?_, hM_e.after TB.out TB.out.size (fun q hq => by omega)⟩
            unfold doesF okB
            rw [← hN]; simp only []; rw [q1, q2]
            rfl
          · cases q3 : (a.text.toList == o.a.text.toList)
            · refine Ev.region_ev (Ev.Onw Wt (w.heap.size + 1 + 1) 104 z104.c z104.c 23) (by kernel_rfl) (by kernel_rfl) (Ev.onw_start T6.out) ?_
              refine Ev.ev_step (v := .agg z104.c) rfl rfl (Ev.onw_read (by decide) (fun w2 hm => Ev.run_load_whole 104 (.tmp 5) rfl (w.heap.size + 1) rfl 104 _ _ (hm.blk T5.out (by omega)) Tryd.underlying104 rfl (by kernel_rfl))) ?_
              simp only [Act.put, List.setIfInBounds_toArray, List.set_cons_succ, List.set_cons_zero]
              refine Ev.ev_step (v := .pointer (some ⟨γ.1, 0, none⟩)) rfl rfl (Ev.onw_pure (by decide) (fun _ => by first | rfl | (go_simp; done) | (go_simp; rfl))) ?_
              simp only [Act.put, List.setIfInBounds_toArray, List.set_cons_succ, List.set_cons_zero]
              refine Ev.ev_step (v := .int .i64 a.kind) rfl rfl (Ev.onw_read (by decide) (fun w2 hm => by have c : w2.cell? ⟨γ.1, 0, none⟩ = some (.int .i64 a.kind) := blk_cell (hm.blk TA.out NA.out) 0; go_simp)) ?_
              simp only [Act.put, List.setIfInBounds_toArray, List.set_cons_succ, List.set_cons_zero]
              refine Ev.ev_step (v := .pointer (some ⟨w.heap.size, 11, none⟩)) rfl rfl (Ev.onw_pure (by decide) (fun _ => by first | rfl | (go_simp; done) | (go_simp; rfl))) ?_
              simp only [Act.put, List.setIfInBounds_toArray, List.set_cons_succ, List.set_cons_zero]
              refine Ev.ev_step (v := .pointer (some ⟨w.heap.size, 11, none⟩)) rfl rfl (Ev.onw_pure (by decide) (fun _ => by first | rfl | (go_simp; done) | (go_simp; rfl))) ?_
              simp only [Act.put, List.setIfInBounds_toArray, List.set_cons_succ, List.set_cons_zero]
              refine Ev.ev_step (v := .int .i64 o.a.kind) rfl rfl (Ev.onw_read (by decide) (fun w2 hm => by have c : w2.cell? ⟨w.heap.size, 11, none⟩ = some (.int .i64 o.a.kind) := blk_cell (hm.blk T4.out (by omega)) 11; go_simp)) ?_
              simp only [Act.put, List.setIfInBounds_toArray, List.set_cons_succ, List.set_cons_zero]
              refine Ev.ev_step (v := .bool (a.kind == o.a.kind)) rfl rfl (Ev.onw_pure (by decide) (fun _ => by first | rfl | (go_simp; done) | (go_simp; rfl))) ?_
              simp only [Act.put, List.setIfInBounds_toArray, List.set_cons_succ, List.set_cons_zero]; rw [q1]
              refine Ev.ev_step (v := .bool true) rfl rfl (Ev.onw_pure (by decide) (fun _ => by first | rfl | (go_simp; done) | (go_simp; rfl))) ?_
              simp only [Act.put, List.setIfInBounds_toArray, List.set_cons_succ, List.set_cons_zero]
              refine Ev.ev_on (v := .pointer (some ⟨γ.1, 3, none⟩)) (by kernel_rfl) rfl (Ev.onw_pure (by decide) (fun _ => by first | rfl | (go_simp; done) | (go_simp; rfl))) ?_
              simp only [Act.put, List.setIfInBounds_toArray, List.set_cons_succ, List.set_cons_zero]
              refine Ev.ev_on (v := .int .u64 a.num) (by kernel_rfl) rfl (Ev.onw_read (by decide) (fun w2 hm => by have c : w2.cell? ⟨γ.1, 3, none⟩ = some (.int .u64 a.num) := blk_cell (hm.blk TA.out NA.out) 3; go_simp)) ?_
              simp only [Act.put, List.setIfInBounds_toArray, List.set_cons_succ, List.set_cons_zero]
              refine Ev.ev_on (v := .pointer (some ⟨w.heap.size, 11, none⟩)) (by kernel_rfl) rfl (Ev.onw_pure (by decide) (fun _ => by first | rfl | (go_simp; done) | (go_simp; rfl))) ?_
              simp only [Act.put, List.setIfInBounds_toArray, List.set_cons_succ, List.set_cons_zero]
              refine Ev.ev_on (v := .pointer (some ⟨w.heap.size, 14, none⟩)) (by kernel_rfl) rfl (Ev.onw_pure (by decide) (fun _ => by first | rfl | (go_simp; done) | (go_simp; rfl))) ?_
              simp only [Act.put, List.setIfInBounds_toArray, List.set_cons_succ, List.set_cons_zero]
              refine Ev.ev_on (v := .int .u64 o.a.num) (by kernel_rfl) rfl (Ev.onw_read (by decide) (fun w2 hm => by have c : w2.cell? ⟨w.heap.size, 14, none⟩ = some (.int .u64 o.a.num) := blk_cell (hm.blk T4.out (by omega)) 14; go_simp)) ?_
              simp only [Act.put, List.setIfInBounds_toArray, List.set_cons_succ, List.set_cons_zero]
              refine Ev.ev_on (v := .bool (a.num == o.a.num)) (by kernel_rfl) rfl (Ev.onw_pure (by decide) (fun _ => by first | rfl | (go_simp; done) | (go_simp; rfl))) ?_
              simp only [Act.put, List.setIfInBounds_toArray, List.set_cons_succ, List.set_cons_zero]; rw [q2]
              refine Ev.ev_step (v := .bool true) rfl rfl (Ev.onw_pure (by decide) (fun _ => by first | rfl | (go_simp; done) | (go_simp; rfl))) ?_
              simp only [Act.put, List.setIfInBounds_toArray, List.set_cons_succ, List.set_cons_zero]
              refine Ev.ev_step (v := .bool true) rfl rfl (Ev.onw_pure (by decide) (fun _ => by first | rfl | (go_simp; done) | (go_simp; rfl))) ?_
              simp only [Act.put, List.setIfInBounds_toArray, List.set_cons_succ, List.set_cons_zero]
              refine Ev.ev_on (v := .pointer (some ⟨γ.1, 4, none⟩)) (by kernel_rfl) rfl (Ev.onw_pure (by decide) (fun _ => by first | rfl | (go_simp; done) | (go_simp; rfl))) ?_
              simp only [Act.put, List.setIfInBounds_toArray, List.set_cons_succ, List.set_cons_zero]
              refine Ev.ev_on (v := .string a.text) (by kernel_rfl) rfl (Ev.onw_read (by decide) (fun w2 hm => by have c : w2.cell? ⟨γ.1, 4, none⟩ = some (.string a.text) := blk_cell (hm.blk TA.out NA.out) 4; go_simp)) ?_
              simp only [Act.put, List.setIfInBounds_toArray, List.set_cons_succ, List.set_cons_zero]
              refine Ev.ev_on (v := .pointer (some ⟨w.heap.size, 11, none⟩)) (by kernel_rfl) rfl (Ev.onw_pure (by decide) (fun _ => by first | rfl | (go_simp; done) | (go_simp; rfl))) ?_
              simp only [Act.put, List.setIfInBounds_toArray, List.set_cons_succ, List.set_cons_zero]
              refine Ev.ev_on (v := .pointer (some ⟨w.heap.size, 15, none⟩)) (by kernel_rfl) rfl (Ev.onw_pure (by decide) (fun _ => by first | rfl | (go_simp; done) | (go_simp; rfl))) ?_
              simp only [Act.put, List.setIfInBounds_toArray, List.set_cons_succ, List.set_cons_zero]
              refine Ev.ev_on (v := .string o.a.text) (by kernel_rfl) rfl (Ev.onw_read (by decide) (fun w2 hm => by have c : w2.cell? ⟨w.heap.size, 15, none⟩ = some (.string o.a.text) := blk_cell (hm.blk T4.out (by omega)) 15; go_simp)) ?_
              simp only [Act.put, List.setIfInBounds_toArray, List.set_cons_succ, List.set_cons_zero]
              refine Ev.ev_on (v := .bool (a.text.toList == o.a.text.toList)) (by kernel_rfl) rfl (Ev.onw_pure (by decide) (fun _ => by first | rfl | (go_simp; done) | (go_simp; rfl))) ?_
              simp only [Act.put, List.setIfInBounds_toArray, List.set_cons_succ, List.set_cons_zero]; rw [q3]
              refine Ev.ev_step (v := .bool false) rfl rfl (Ev.onw_pure (by decide) (fun _ => by first | rfl | (go_simp; done) | (go_simp; rfl))) ?_
              simp only [Act.put, List.setIfInBounds_toArray, List.set_cons_succ, List.set_cons_zero]
              refine Ev.ev_step (v := undef) rfl rfl (Ev.onw_store 104 (.tmp 6) (.tmp 64) rfl rfl rfl rfl (by kernel_rfl) (en_one _)) ?_
              simp only [Act.put]
              refine Ev.ev_step (v := .bool false) rfl rfl (Ev.onw_pure (by decide) (fun _ => by first | rfl | (go_simp; done) | (go_simp; rfl))) ?_
              simp only [Act.put, List.setIfInBounds_toArray, List.set_cons_succ, List.set_cons_zero]
              refine Ev.ev_nil (fun w_e hw_e => ?_)
              obtain ⟨hM_e, hX_e⟩ := Ev.onw_end hw_e (by decide)
              clear hw_e
              go_wp2
              refine bodyPost_ret (Ev.results_c1 rfl rfl hX_e Tryd.underlying104 rfl (by kernel_rfl) rfl) rfl ⟨?_, hM_e.after TB.out TB.out.size (fun q hq => by omega)⟩
              unfold doesF okB
              rw [← hN]; simp only []; rw [q1, q2, q3]
              rfl
            · refine Ev.region_ev (Ev.Onw Wt (w.heap.size + 1 + 1) 104 z104.c z104.c 23) (by kernel_rfl) (by kernel_rfl) (Ev.onw_start T6.out) ?_
              refine Ev.ev_step (v := .agg z104.c) rfl rfl (Ev.onw_read (by decide) (fun w2 hm => Ev.run_load_whole 104 (.tmp 5) rfl (w.heap.size + 1) rfl 104 _ _ (hm.blk T5.out (by omega)) Tryd.underlying104 rfl (by kernel_rfl))) ?_
              simp only [Act.put, List.setIfInBounds_toArray, List.set_cons_succ, List.set_cons_zero]
              refine Ev.ev_step (v := .pointer (some ⟨γ.1, 0, none⟩)) rfl rfl (Ev.onw_pure (by decide) (fun _ => by first | rfl | (go_simp; done) | (go_simp; rfl))) ?_
              simp only [Act.put, List.setIfInBounds_toArray, List.set_cons_succ, List.set_cons_zero]
              refine Ev.ev_step (v := .int .i64 a.kind) rfl rfl (Ev.onw_read (by decide) (fun w2 hm => by have c : w2.cell? ⟨γ.1, 0, none⟩ = some (.int .i64 a.kind) := blk_cell (hm.blk TA.out NA.out) 0; go_simp)) ?_
              simp only [Act.put, List.setIfInBounds_toArray, List.set_cons_succ, List.set_cons_zero]
              refine Ev.ev_step (v := .pointer (some ⟨w.heap.size, 11, none⟩)) rfl rfl (Ev.onw_pure (by decide) (fun _ => by first | rfl | (go_simp; done) | (go_simp; rfl))) ?_
              simp only [Act.put, List.setIfInBounds_toArray, List.set_cons_succ, List.set_cons_zero]
              refine Ev.ev_step (v := .pointer (some ⟨w.heap.size, 11, none⟩)) rfl rfl (Ev.onw_pure (by decide) (fun _ => by first | rfl | (go_simp; done) | (go_simp; rfl))) ?_
              simp only [Act.put, List.setIfInBounds_toArray, List.set_cons_succ, List.set_cons_zero]
              refine Ev.ev_step (v := .int .i64 o.a.kind) rfl rfl (Ev.onw_read (by decide) (fun w2 hm => by have c : w2.cell? ⟨w.heap.size, 11, none⟩ = some (.int .i64 o.a.kind) := blk_cell (hm.blk T4.out (by omega)) 11; go_simp)) ?_
              simp only [Act.put, List.setIfInBounds_toArray, List.set_cons_succ, List.set_cons_zero]
              refine Ev.ev_step (v := .bool (a.kind == o.a.kind)) rfl rfl (Ev.onw_pure (by decide) (fun _ => by first | rfl | (go_simp; done) | (go_simp; rfl))) ?_
              simp only [Act.put, List.setIfInBounds_toArray, List.set_cons_succ, List.set_cons_zero]; rw [q1]
              refine Ev.ev_step (v := .bool true) rfl rfl (Ev.onw_pure (by decide) (fun _ => by first | rfl | (go_simp; done) | (go_simp; rfl))) ?_
              simp only [Act.put, List.setIfInBounds_toArray, List.set_cons_succ, List.set_cons_zero]
              refine Ev.ev_on (v := .pointer (some ⟨γ.1, 3, none⟩)) (by kernel_rfl) rfl (Ev.onw_pure (by decide) (fun _ => by first | rfl | (go_simp; done) | (go_simp; rfl))) ?_
              simp only [Act.put, List.setIfInBounds_toArray, List.set_cons_succ, List.set_cons_zero]
              refine Ev.ev_on (v := .int .u64 a.num) (by kernel_rfl) rfl (Ev.onw_read (by decide) (fun w2 hm => by have c : w2.cell? ⟨γ.1, 3, none⟩ = some (.int .u64 a.num) := blk_cell (hm.blk TA.out NA.out) 3; go_simp)) ?_
              simp only [Act.put, List.setIfInBounds_toArray, List.set_cons_succ, List.set_cons_zero]
              refine Ev.ev_on (v := .pointer (some ⟨w.heap.size, 11, none⟩)) (by kernel_rfl) rfl (Ev.onw_pure (by decide) (fun _ => by first | rfl | (go_simp; done) | (go_simp; rfl))) ?_
              simp only [Act.put, List.setIfInBounds_toArray, List.set_cons_succ, List.set_cons_zero]
              refine Ev.ev_on (v := .pointer (some ⟨w.heap.size, 14, none⟩)) (by kernel_rfl) rfl (Ev.onw_pure (by decide) (fun _ => by first | rfl | (go_simp; done) | (go_simp; rfl))) ?_
              simp only [Act.put, List.setIfInBounds_toArray, List.set_cons_succ, List.set_cons_zero]
              refine Ev.ev_on (v := .int .u64 o.a.num) (by kernel_rfl) rfl (Ev.onw_read (by decide) (fun w2 hm => by have c : w2.cell? ⟨w.heap.size, 14, none⟩ = some (.int .u64 o.a.num) := blk_cell (hm.blk T4.out (by omega)) 14; go_simp)) ?_
              simp only [Act.put, List.setIfInBounds_toArray, List.set_cons_succ, List.set_cons_zero]
              refine Ev.ev_on (v := .bool (a.num == o.a.num)) (by kernel_rfl) rfl (Ev.onw_pure (by decide) (fun _ => by first | rfl | (go_simp; done) | (go_simp; rfl))) ?_
              simp only [Act.put, List.setIfInBounds_toArray, List.set_cons_succ, List.set_cons_zero]; rw [q2]
              refine Ev.ev_step (v := .bool true) rfl rfl (Ev.onw_pure (by decide) (fun _ => by first | rfl | (go_simp; done) | (go_simp; rfl))) ?_
              simp only [Act.put, List.setIfInBounds_toArray, List.set_cons_succ, List.set_cons_zero]
              refine Ev.ev_step (v := .bool true) rfl rfl (Ev.onw_pure (by decide) (fun _ => by first | rfl | (go_simp; done) | (go_simp; rfl))) ?_
              simp only [Act.put, List.setIfInBounds_toArray, List.set_cons_succ, List.set_cons_zero]
              refine Ev.ev_on (v := .pointer (some ⟨γ.1, 4, none⟩)) (by kernel_rfl) rfl (Ev.onw_pure (by decide) (fun _ => by first | rfl | (go_simp; done) | (go_simp; rfl))) ?_
              simp only [Act.put, List.setIfInBounds_toArray, List.set_cons_succ, List.set_cons_zero]
              refine Ev.ev_on (v := .string a.text) (by kernel_rfl) rfl (Ev.onw_read (by decide) (fun w2 hm => by have c : w2.cell? ⟨γ.1, 4, none⟩ = some (.string a.text) := blk_cell (hm.blk TA.out NA.out) 4; go_simp)) ?_
              simp only [Act.put, List.setIfInBounds_toArray, List.set_cons_succ, List.set_cons_zero]
              refine Ev.ev_on (v := .pointer (some ⟨w.heap.size, 11, none⟩)) (by kernel_rfl) rfl (Ev.onw_pure (by decide) (fun _ => by first | rfl | (go_simp; done) | (go_simp; rfl))) ?_
              simp only [Act.put, List.setIfInBounds_toArray, List.set_cons_succ, List.set_cons_zero]
              refine Ev.ev_on (v := .pointer (some ⟨w.heap.size, 15, none⟩)) (by kernel_rfl) rfl (Ev.onw_pure (by decide) (fun _ => by first | rfl | (go_simp; done) | (go_simp; rfl))) ?_
              simp only [Act.put, List.setIfInBounds_toArray, List.set_cons_succ, List.set_cons_zero]
              refine Ev.ev_on (v := .string o.a.text) (by kernel_rfl) rfl (Ev.onw_read (by decide) (fun w2 hm => by have c : w2.cell? ⟨w.heap.size, 15, none⟩ = some (.string o.a.text) := blk_cell (hm.blk T4.out (by omega)) 15; go_simp)) ?_
              simp only [Act.put, List.setIfInBounds_toArray, List.set_cons_succ, List.set_cons_zero]
              refine Ev.ev_on (v := .bool (a.text.toList == o.a.text.toList)) (by kernel_rfl) rfl (Ev.onw_pure (by decide) (fun _ => by first | rfl | (go_simp; done) | (go_simp; rfl))) ?_
              simp only [Act.put, List.setIfInBounds_toArray, List.set_cons_succ, List.set_cons_zero]; rw [q3]
              refine Ev.ev_step (v := .bool true) rfl rfl (Ev.onw_pure (by decide) (fun _ => by first | rfl | (go_simp; done) | (go_simp; rfl))) ?_
              simp only [Act.put, List.setIfInBounds_toArray, List.set_cons_succ, List.set_cons_zero]
              refine Ev.ev_step (v := undef) rfl rfl (Ev.onw_store 104 (.tmp 6) (.tmp 64) rfl rfl rfl rfl (by kernel_rfl) (en_one _)) ?_
              simp only [Act.put]
              refine Ev.ev_step (v := .bool true) rfl rfl (Ev.onw_pure (by decide) (fun _ => by first | rfl | (go_simp; done) | (go_simp; rfl))) ?_
              simp only [Act.put, List.setIfInBounds_toArray, List.set_cons_succ, List.set_cons_zero]
              refine Ev.ev_nil (fun w_e hw_e => ?_)
              obtain ⟨hM_e, hX_e⟩ := Ev.onw_end hw_e (by decide)
              clear hw_e
              go_wp2
              refine bodyPost_ret (Ev.results_c1 rfl rfl hX_e Tryd.underlying104 rfl (by kernel_rfl) rfl) rfl ⟨?_, hM_e.after TB.out TB.out.size (fun q hq => by omega)⟩
              unfold doesF okB
              rw [← hN]; simp only []; rw [q1, q2, q3]
              rfl
    · obtain rfl : dr = false := hdr hN.symm
      go_wp2_with (refine gate_ (.store 104 (.tmp 5) (.tmp 61)) rfl ?_; refine ev_store_row (.store 104 (.tmp 5) (.tmp 61)) rfl rfl rfl 104 (.tmp 5) (.tmp 61) rfl (w.heap.size + 1) (En.c ⟨true, x.fl, x.val⟩) rfl rfl 104 e.c KE5.out ?y1 rfl (en_one _) ?_; (case y1 => kernel_rfl); intro Wt hw1 hm1; have T5 := Aside0.mk hw1; have T4 := Aside0.mk (hm1.blk KE4.out (by omega)); have T6 := Aside0.mk (hm1.blk KE6.out (by omega)); have TA2 := Aside0.mk (hm1.blk TA.out N1.out); have TB := Aside0.mk (hm1.after BE.out BE.out.size (fun q hq => by omega)); clear TA; have TA := TA2; clear TA2 hw1 hm1)
      cases q1 : (a.kind == o.a.kind)
      · refine Ev.region_ev (Ev.Onw Wt (w.heap.size + 1 + 1) 104 z104.c (En.c ⟨true, x.fl, x.val⟩) 23) (by kernel_rfl) (by kernel_rfl) (Ev.onw_start T6.out) ?_
        refine Ev.ev_step (v := .agg (En.c ⟨true, x.fl, x.val⟩)) rfl rfl (Ev.onw_read (by decide) (fun w2 hm => Ev.run_load_whole 104 (.tmp 5) rfl (w.heap.size + 1) rfl 104 _ _ (hm.blk T5.out (by omega)) Tryd.underlying104 rfl (by kernel_rfl))) ?_
        simp only [Act.put, List.setIfInBounds_toArray, List.set_cons_succ, List.set_cons_zero]
        refine Ev.ev_step (v := .pointer (some ⟨γ.1, 0, none⟩)) rfl rfl (Ev.onw_pure (by decide) (fun _ => by first | rfl | (go_simp; done) | (go_simp; rfl))) ?_
        simp only [Act.put, List.setIfInBounds_toArray, List.set_cons_succ, List.set_cons_zero]
        refine Ev.ev_step (v := .int .i64 a.kind) rfl rfl (Ev.onw_read (by decide) (fun w2 hm => by have c : w2.cell? ⟨γ.1, 0, none⟩ = some (.int .i64 a.kind) := blk_cell (hm.blk TA.out NA.out) 0; go_simp)) ?_
        simp only [Act.put, List.setIfInBounds_toArray, List.set_cons_succ, List.set_cons_zero]
        refine Ev.ev_step (v := .pointer (some ⟨w.heap.size, 11, none⟩)) rfl rfl (Ev.onw_pure (by decide) (fun _ => by first | rfl | (go_simp; done) | (go_simp; rfl))) ?_
        simp only [Act.put, List.setIfInBounds_toArray, List.set_cons_succ, List.set_cons_zero]
        refine Ev.ev_step (v := .pointer (some ⟨w.heap.size, 11, none⟩)) rfl rfl (Ev.onw_pure (by decide) (fun _ => by first | rfl | (go_simp; done) | (go_simp; rfl))) ?_
        simp only [Act.put, List.setIfInBounds_toArray, List.set_cons_succ, List.set_cons_zero]
        refine Ev.ev_step (v := .int .i64 o.a.kind) rfl rfl (Ev.onw_read (by decide) (fun w2 hm => by have c : w2.cell? ⟨w.heap.size, 11, none⟩ = some (.int .i64 o.a.kind) := blk_cell (hm.blk T4.out (by omega)) 11; go_simp)) ?_
        simp only [Act.put, List.setIfInBounds_toArray, List.set_cons_succ, List.set_cons_zero]
        refine Ev.ev_step (v := .bool (a.kind == o.a.kind)) rfl rfl (Ev.onw_pure (by decide) (fun _ => by first | rfl | (go_simp; done) | (go_simp; rfl))) ?_
        simp only [Act.put, List.setIfInBounds_toArray, List.set_cons_succ, List.set_cons_zero]; rw [q1]
        refine Ev.ev_step (v := .bool false) rfl rfl (Ev.onw_pure (by decide) (fun _ => by first | rfl | (go_simp; done) | (go_simp; rfl))) ?_
        simp only [Act.put, List.setIfInBounds_toArray, List.set_cons_succ, List.set_cons_zero]
        refine Ev.ev_off (by kernel_rfl) rfl (Ev.onw_idle (by decide)) ?_
        simp only [Act.put, List.setIfInBounds_toArray, List.set_cons_succ, List.set_cons_zero]
        refine Ev.ev_off (by kernel_rfl) rfl (Ev.onw_idle (by decide)) ?_
        simp only [Act.put, List.setIfInBounds_toArray, List.set_cons_succ, List.set_cons_zero]
        refine Ev.ev_off (by kernel_rfl) rfl (Ev.onw_idle (by decide)) ?_
        simp only [Act.put, List.setIfInBounds_toArray, List.set_cons_succ, List.set_cons_zero]
        refine Ev.ev_off (by kernel_rfl) rfl (Ev.onw_idle (by decide)) ?_
        simp only [Act.put, List.setIfInBounds_toArray, List.set_cons_succ, List.set_cons_zero]
        refine Ev.ev_off (by kernel_rfl) rfl (Ev.onw_idle (by decide)) ?_
        simp only [Act.put, List.setIfInBounds_toArray, List.set_cons_succ, List.set_cons_zero]
        refine Ev.ev_off (by kernel_rfl) rfl (Ev.onw_idle (by decide)) ?_
        simp only [Act.put, List.setIfInBounds_toArray, List.set_cons_succ, List.set_cons_zero]
        refine Ev.ev_step (v := .bool false) rfl rfl (Ev.onw_pure (by decide) (fun _ => by first | rfl | (go_simp; done) | (go_simp; rfl))) ?_
        simp only [Act.put, List.setIfInBounds_toArray, List.set_cons_succ, List.set_cons_zero]
        refine Ev.ev_step (v := .bool false) rfl rfl (Ev.onw_pure (by decide) (fun _ => by first | rfl | (go_simp; done) | (go_simp; rfl))) ?_
        simp only [Act.put, List.setIfInBounds_toArray, List.set_cons_succ, List.set_cons_zero]
        refine Ev.ev_off (by kernel_rfl) rfl (Ev.onw_idle (by decide)) ?_
        simp only [Act.put, List.setIfInBounds_toArray, List.set_cons_succ, List.set_cons_zero]
        refine Ev.ev_off (by kernel_rfl) rfl (Ev.onw_idle (by decide)) ?_
        simp only [Act.put, List.setIfInBounds_toArray, List.set_cons_succ, List.set_cons_zero]
        refine Ev.ev_off (by kernel_rfl) rfl (Ev.onw_idle (by decide)) ?_
        simp only [Act.put, List.setIfInBounds_toArray, List.set_cons_succ, List.set_cons_zero]
        refine Ev.ev_off (by kernel_rfl) rfl (Ev.onw_idle (by decide)) ?_
        simp only [Act.put, List.setIfInBounds_toArray, List.set_cons_succ, List.set_cons_zero]
        refine Ev.ev_off (by kernel_rfl) rfl (Ev.onw_idle (by decide)) ?_
        simp only [Act.put, List.setIfInBounds_toArray, List.set_cons_succ, List.set_cons_zero]
        refine Ev.ev_off (by kernel_rfl) rfl (Ev.onw_idle (by decide)) ?_
        simp only [Act.put, List.setIfInBounds_toArray, List.set_cons_succ, List.set_cons_zero]
        refine Ev.ev_step (v := .bool false) rfl rfl (Ev.onw_pure (by decide) (fun _ => by first | rfl | (go_simp; done) | (go_simp; rfl))) ?_
        simp only [Act.put, List.setIfInBounds_toArray, List.set_cons_succ, List.set_cons_zero]
        refine Ev.ev_step (v := undef) rfl rfl (Ev.onw_store 104 (.tmp 6) (.tmp 64) rfl rfl rfl rfl (by kernel_rfl) (en_one _)) ?_
        simp only [Act.put]
        refine Ev.ev_step (v := .bool false) rfl rfl (Ev.onw_pure (by decide) (fun _ => by first | rfl | (go_simp; done) | (go_simp; rfl))) ?_
        simp only [Act.put, List.setIfInBounds_toArray, List.set_cons_succ, List.set_cons_zero]
        refine Ev.ev_nil (fun w_e hw_e => ?_)
        obtain ⟨hM_e, hX_e⟩ := Ev.onw_end hw_e (by decide)
        clear hw_e
        go_wp2
        refine bodyPost_ret (Ev.results_c1 rfl rfl hX_e Tryd.underlying104 rfl (by kernel_rfl) rfl) rfl ⟨?_, hM_e.after TB.out TB.out.size (fun q hq => by omega)⟩
        unfold doesF okB
        rw [← hN]; simp only []; rw [q1]
        rfl
      · cases q2 : (a.num == o.a.num)
        · refine Ev.region_ev (Ev.Onw Wt (w.heap.size + 1 + 1) 104 z104.c (En.c ⟨true, x.fl, x.val⟩) 23) (by kernel_rfl) (by kernel_rfl) (Ev.onw_start T6.out) ?_
          refine Ev.ev_step (v := .agg (En.c ⟨true, x.fl, x.val⟩)) rfl rfl (Ev.onw_read (by decide) (fun w2 hm => Ev.run_load_whole 104 (.tmp 5) rfl (w.heap.size + 1) rfl 104 _ _ (hm.blk T5.out (by omega)) Tryd.underlying104 rfl (by kernel_rfl))) ?_
          simp only [Act.put, List.setIfInBounds_toArray, List.set_cons_succ, List.set_cons_zero]
          refine Ev.ev_step (v := .pointer (some ⟨γ.1, 0, none⟩)) rfl rfl (Ev.onw_pure (by decide) (fun _ => by first | rfl | (go_simp; done) | (go_simp; rfl))) ?_
          simp only [Act.put, List.setIfInBounds_toArray, List.set_cons_succ, List.set_cons_zero]
          refine Ev.ev_step (v := .int .i64 a.kind) rfl rfl (Ev.onw_read (by decide) (fun w2 hm => by have c : w2.cell? ⟨γ.1, 0, none⟩ = some (.int .i64 a.kind) := blk_cell (hm.blk TA.out NA.out) 0; go_simp)) ?_
          simp only [Act.put, List.setIfInBounds_toArray, List.set_cons_succ, List.set_cons_zero]
          refine Ev.ev_step (v := .pointer (some ⟨w.heap.size, 11, none⟩)) rfl rfl (Ev.onw_pure (by decide) (fun _ => by first | rfl | (go_simp; done) | (go_simp; rfl))) ?_
          simp only [Act.put, List.setIfInBounds_toArray, List.set_cons_succ, List.set_cons_zero]
          refine Ev.ev_step (v := .pointer (some ⟨w.heap.size, 11, none⟩)) rfl rfl (Ev.onw_pure (by decide) (fun _ => by first | rfl | (go_simp; done) | (go_simp; rfl))) ?_
          simp only [Act.put, List.setIfInBounds_toArray, List.set_cons_succ, List.set_cons_zero]
          refine Ev.ev_step (v := .int .i64 o.a.kind) rfl rfl (Ev.onw_read (by decide) (fun w2 hm => by have c : w2.cell? ⟨w.heap.size, 11, none⟩ = some (.int .i64 o.a.kind) := blk_cell (hm.blk T4.out (by omega)) 11; go_simp)) ?_
          simp only [Act.put, List.setIfInBounds_toArray, List.set_cons_succ, List.set_cons_zero]
          refine Ev.ev_step (v := .bool (a.kind == o.a.kind)) rfl rfl (Ev.onw_pure (by decide) (fun _ => by first | rfl | (go_simp; done) | (go_simp; rfl))) ?_
          simp only [Act.put, List.setIfInBounds_toArray, List.set_cons_succ, List.set_cons_zero]; rw [q1]
          refine Ev.ev_step (v := .bool true) rfl rfl (Ev.onw_pure (by decide) (fun _ => by first | rfl | (go_simp; done) | (go_simp; rfl))) ?_
          simp only [Act.put, List.setIfInBounds_toArray, List.set_cons_succ, List.set_cons_zero]
          refine Ev.ev_on (v := .pointer (some ⟨γ.1, 3, none⟩)) (by kernel_rfl) rfl (Ev.onw_pure (by decide) (fun _ => by first | rfl | (go_simp; done) | (go_simp; rfl))) ?_
          simp only [Act.put, List.setIfInBounds_toArray, List.set_cons_succ, List.set_cons_zero]
          refine Ev.ev_on (v := .int .u64 a.num) (by kernel_rfl) rfl (Ev.onw_read (by decide) (fun w2 hm => by have c : w2.cell? ⟨γ.1, 3, none⟩ = some (.int .u64 a.num) := blk_cell (hm.blk TA.out NA.out) 3; go_simp)) ?_
          simp only [Act.put, List.setIfInBounds_toArray, List.set_cons_succ, List.set_cons_zero]
          refine Ev.ev_on (v := .pointer (some ⟨w.heap.size, 11, none⟩)) (by kernel_rfl) rfl (Ev.onw_pure (by decide) (fun _ => by first | rfl | (go_simp; done) | (go_simp; rfl))) ?_
          simp only [Act.put, List.setIfInBounds_toArray, List.set_cons_succ, List.set_cons_zero]
          refine Ev.ev_on (v := .pointer (some ⟨w.heap.size, 14, none⟩)) (by kernel_rfl) rfl (Ev.onw_pure (by decide) (fun _ => by first | rfl | (go_simp; done) | (go_simp; rfl))) ?_
          simp only [Act.put, List.setIfInBounds_toArray, List.set_cons_succ, List.set_cons_zero]
          refine Ev.ev_on (v := .int .u64 o.a.num) (by kernel_rfl) rfl (Ev.onw_read (by decide) (fun w2 hm => by have c : w2.cell? ⟨w.heap.size, 14, none⟩ = some (.int .u64 o.a.num) := blk_cell (hm.blk T4.out (by omega)) 14; go_simp)) ?_
          simp only [Act.put, List.setIfInBounds_toArray, List.set_cons_succ, List.set_cons_zero]
          refine Ev.ev_on (v := .bool (a.num == o.a.num)) (by kernel_rfl) rfl (Ev.onw_pure (by decide) (fun _ => by first | rfl | (go_simp; done) | (go_simp; rfl))) ?_
          simp only [Act.put, List.setIfInBounds_toArray, List.set_cons_succ, List.set_cons_zero]; rw [q2]
          refine Ev.ev_step (v := .bool false) rfl rfl (Ev.onw_pure (by decide) (fun _ => by first | rfl | (go_simp; done) | (go_simp; rfl))) ?_
          simp only [Act.put, List.setIfInBounds_toArray, List.set_cons_succ, List.set_cons_zero]
          refine Ev.ev_step (v := .bool false) rfl rfl (Ev.onw_pure (by decide) (fun _ => by first | rfl | (go_simp; done) | (go_simp; rfl))) ?_
          simp only [Act.put, List.setIfInBounds_toArray, List.set_cons_succ, List.set_cons_zero]
          refine Ev.ev_off (by kernel_rfl) rfl (Ev.onw_idle (by decide)) ?_
          simp only [Act.put, List.setIfInBounds_toArray, List.set_cons_succ, List.set_cons_zero]
          refine Ev.ev_off (by kernel_rfl) rfl (Ev.onw_idle (by decide)) ?_
          simp only [Act.put, List.setIfInBounds_toArray, List.set_cons_succ, List.set_cons_zero]
          refine Ev.ev_off (by kernel_rfl) rfl (Ev.onw_idle (by decide)) ?_
          simp only [Act.put, List.setIfInBounds_toArray, List.set_cons_succ, List.set_cons_zero]
          refine Ev.ev_off (by kernel_rfl) rfl (Ev.onw_idle (by decide)) ?_
          simp only [Act.put, List.setIfInBounds_toArray, List.set_cons_succ, List.set_cons_zero]
          refine Ev.ev_off (by kernel_rfl) rfl (Ev.onw_idle (by decide)) ?_
          simp only [Act.put, List.setIfInBounds_toArray, List.set_cons_succ, List.set_cons_zero]
          refine Ev.ev_off (by kernel_rfl) rfl (Ev.onw_idle (by decide)) ?_
          simp only [Act.put, List.setIfInBounds_toArray, List.set_cons_succ, List.set_cons_zero]
          refine Ev.ev_step (v := .bool false) rfl rfl (Ev.onw_pure (by decide) (fun _ => by first | rfl | (go_simp; done) | (go_simp; rfl))) ?_
          simp only [Act.put, List.setIfInBounds_toArray, List.set_cons_succ, List.set_cons_zero]
          refine Ev.ev_step (v := undef) rfl rfl (Ev.onw_store 104 (.tmp 6) (.tmp 64) rfl rfl rfl rfl (by kernel_rfl) (en_one _)) ?_
          simp only [Act.put]
          refine Ev.ev_step (v := .bool false) rfl rfl (Ev.onw_pure (by decide) (fun _ => by first | rfl | (go_simp; done) | (go_simp; rfl))) ?_
          simp only [Act.put, List.setIfInBounds_toArray, List.set_cons_succ, List.set_cons_zero]
          refine Ev.ev_nil (fun w_e hw_e => ?_)
          obtain ⟨hM_e, hX_e⟩ := Ev.onw_end hw_e (by decide)
          clear hw_e
          go_wp2
          refine bodyPost_ret (Ev.results_c1 rfl rfl hX_e Tryd.underlying104 rfl (by kernel_rfl) rfl) rfl ⟨?_, hM_e.after TB.out TB.out.size (fun q hq => by omega)⟩
          unfold doesF okB
          rw [← hN]; simp only []; rw [q1, q2]
          rfl
        · cases q3 : (a.text.toList == o.a.text.toList)
          · refine Ev.region_ev (Ev.Onw Wt (w.heap.size + 1 + 1) 104 z104.c (En.c ⟨true, x.fl, x.val⟩) 23) (by kernel_rfl) (by kernel_rfl) (Ev.onw_start T6.out) ?_
            refine Ev.ev_step (v := .agg (En.c ⟨true, x.fl, x.val⟩)) rfl rfl (Ev.onw_read (by decide) (fun w2 hm => Ev.run_load_whole 104 (.tmp 5) rfl (w.heap.size + 1) rfl 104 _ _ (hm.blk T5.out (by omega)) Tryd.underlying104 rfl (by kernel_rfl))) ?_
            simp only [Act.put, List.setIfInBounds_toArray, List.set_cons_succ, List.set_cons_zero]
            refine Ev.ev_step (v := .pointer (some ⟨γ.1, 0, none⟩)) rfl rfl (Ev.onw_pure (by decide) (fun _ => by first | rfl | (go_simp; done) | (go_simp; rfl))) ?_
            simp only [Act.put, List.setIfInBounds_toArray, List.set_cons_succ, List.set_cons_zero]
            refine Ev.ev_step (v := .int .i64 a.kind) rfl rfl (Ev.onw_read (by decide) (fun w2 hm => by have c : w2.cell? ⟨γ.1, 0, none⟩ = some (.int .i64 a.kind) := blk_cell (hm.blk TA.out NA.out) 0; go_simp)) ?_
            simp only [Act.put, List.setIfInBounds_toArray, List.set_cons_succ, List.set_cons_zero]
            refine Ev.ev_step (v := .pointer (some ⟨w.heap.size, 11, none⟩)) rfl rfl (Ev.onw_pure (by decide) (fun _ => by first | rfl | (go_simp; done) | (go_simp; rfl))) ?_
            simp only [Act.put, List.setIfInBounds_toArray, List.set_cons_succ, List.set_cons_zero]
            refine Ev.ev_step (v := .pointer (some ⟨w.heap.size, 11, none⟩)) rfl rfl (Ev.onw_pure (by decide) (fun _ => by first | rfl | (go_simp; done) | (go_simp; rfl))) ?_
            simp only [Act.put, List.setIfInBounds_toArray, List.set_cons_succ, List.set_cons_zero]
            refine Ev.ev_step (v := .int .i64 o.a.kind) rfl rfl (Ev.onw_read (by decide) (fun w2 hm => by have c : w2.cell? ⟨w.heap.size, 11, none⟩ = some (.int .i64 o.a.kind) := blk_cell (hm.blk T4.out (by omega)) 11; go_simp)) ?_
            simp only [Act.put, List.setIfInBounds_toArray, List.set_cons_succ, List.set_cons_zero]
            refine Ev.ev_step (v := .bool (a.kind == o.a.kind)) rfl rfl (Ev.onw_pure (by decide) (fun _ => by first | rfl | (go_simp; done) | (go_simp; rfl))) ?_
            simp only [Act.put, List.setIfInBounds_toArray, List.set_cons_succ, List.set_cons_zero]; rw [q1]
            refine Ev.ev_step (v := .bool true) rfl rfl (Ev.onw_pure (by decide) (fun _ => by first | rfl | (go_simp; done) | (go_simp; rfl))) ?_
            simp only [Act.put, List.setIfInBounds_toArray, List.set_cons_succ, List.set_cons_zero]
            refine Ev.ev_on (v := .pointer (some ⟨γ.1, 3, none⟩)) (by kernel_rfl) rfl (Ev.onw_pure (by decide) (fun _ => by first | rfl | (go_simp; done) | (go_simp; rfl))) ?_
            simp only [Act.put, List.setIfInBounds_toArray, List.set_cons_succ, List.set_cons_zero]
            refine Ev.ev_on (v := .int .u64 a.num) (by kernel_rfl) rfl (Ev.onw_read (by decide) (fun w2 hm => by have c : w2.cell? ⟨γ.1, 3, none⟩ = some (.int .u64 a.num) := blk_cell (hm.blk TA.out NA.out) 3; go_simp)) ?_
            simp only [Act.put, List.setIfInBounds_toArray, List.set_cons_succ, List.set_cons_zero]
            refine Ev.ev_on (v := .pointer (some ⟨w.heap.size, 11, none⟩)) (by kernel_rfl) rfl (Ev.onw_pure (by decide) (fun _ => by first | rfl | (go_simp; done) | (go_simp; rfl))) ?_
            simp only [Act.put, List.setIfInBounds_toArray, List.set_cons_succ, List.set_cons_zero]
            refine Ev.ev_on (v := .pointer (some ⟨w.heap.size, 14, none⟩)) (by kernel_rfl) rfl (Ev.onw_pure (by decide) (fun _ => by first | rfl | (go_simp; done) | (go_simp; rfl))) ?_
            simp only [Act.put, List.setIfInBounds_toArray, List.set_cons_succ, List.set_cons_zero]
            refine Ev.ev_on (v := .int .u64 o.a.num) (by kernel_rfl) rfl (Ev.onw_read (by decide) (fun w2 hm => by have c : w2.cell? ⟨w.heap.size, 14, none⟩ = some (.int .u64 o.a.num) := blk_cell (hm.blk T4.out (by omega)) 14; go_simp)) ?_
            simp only [Act.put, List.setIfInBounds_toArray, List.set_cons_succ, List.set_cons_zero]
            refine Ev.ev_on (v := .bool (a.num == o.a.num)) (by kernel_rfl) rfl (Ev.onw_pure (by decide) (fun _ => by first | rfl | (go_simp; done) | (go_simp; rfl))) ?_
            simp only [Act.put, List.setIfInBounds_toArray, List.set_cons_succ, List.set_cons_zero]; rw [q2]
            refine Ev.ev_step (v := .bool true) rfl rfl (Ev.onw_pure (by decide) (fun _ => by first | rfl | (go_simp; done) | (go_simp; rfl))) ?_
            simp only [Act.put, List.setIfInBounds_toArray, List.set_cons_succ, List.set_cons_zero]
            refine Ev.ev_step (v := .bool true) rfl rfl (Ev.onw_pure (by decide) (fun _ => by first | rfl | (go_simp; done) | (go_simp; rfl))) ?_
            simp only [Act.put, List.setIfInBounds_toArray, List.set_cons_succ, List.set_cons_zero]
            refine Ev.ev_on (v := .pointer (some ⟨γ.1, 4, none⟩)) (by kernel_rfl) rfl (Ev.onw_pure (by decide) (fun _ => by first | rfl | (go_simp; done) | (go_simp; rfl))) ?_
            simp only [Act.put, List.setIfInBounds_toArray, List.set_cons_succ, List.set_cons_zero]
            refine Ev.ev_on (v := .string a.text) (by kernel_rfl) rfl (Ev.onw_read (by decide) (fun w2 hm => by have c : w2.cell? ⟨γ.1, 4, none⟩ = some (.string a.text) := blk_cell (hm.blk TA.out NA.out) 4; go_simp)) ?_
            simp only [Act.put, List.setIfInBounds_toArray, List.set_cons_succ, List.set_cons_zero]
            refine Ev.ev_on (v := .pointer (some ⟨w.heap.size, 11, none⟩)) (by kernel_rfl) rfl (Ev.onw_pure (by decide) (fun _ => by first | rfl | (go_simp; done) | (go_simp; rfl))) ?_
            simp only [Act.put, List.setIfInBounds_toArray, List.set_cons_succ, List.set_cons_zero]
            refine Ev.ev_on (v := .pointer (some ⟨w.heap.size, 15, none⟩)) (by kernel_rfl) rfl (Ev.onw_pure (by decide) (fun _ => by first | rfl | (go_simp; done) | (go_simp; rfl))) ?_
            simp only [Act.put, List.setIfInBounds_toArray, List.set_cons_succ, List.set_cons_zero]
            refine Ev.ev_on (v := .string o.a.text) (by kernel_rfl) rfl (Ev.onw_read (by decide) (fun w2 hm => by have c : w2.cell? ⟨w.heap.size, 15, none⟩ = some (.string o.a.text) := blk_cell (hm.blk T4.out (by omega)) 15; go_simp)) ?_
            simp only [Act.put, List.setIfInBounds_toArray, List.set_cons_succ, List.set_cons_zero]
            refine Ev.ev_on (v := .bool (a.text.toList == o.a.text.toList)) (by kernel_rfl) rfl (Ev.onw_pure (by decide) (fun _ => by first | rfl | (go_simp; done) | (go_simp; rfl))) ?_
            simp only [Act.put, List.setIfInBounds_toArray, List.set_cons_succ, List.set_cons_zero]; rw [q3]
            refine Ev.ev_step (v := .bool false) rfl rfl (Ev.onw_pure (by decide) (fun _ => by first | rfl | (go_simp; done) | (go_simp; rfl))) ?_
            simp only [Act.put, List.setIfInBounds_toArray, List.set_cons_succ, List.set_cons_zero]
            refine Ev.ev_step (v := undef) rfl rfl (Ev.onw_store 104 (.tmp 6) (.tmp 64) rfl rfl rfl rfl (by kernel_rfl) (en_one _)) ?_
            simp only [Act.put]
            refine Ev.ev_step (v := .bool false) rfl rfl (Ev.onw_pure (by decide) (fun _ => by first | rfl | (go_simp; done) | (go_simp; rfl))) ?_
            simp only [Act.put, List.setIfInBounds_toArray, List.set_cons_succ, List.set_cons_zero]
            refine Ev.ev_nil (fun w_e hw_e => ?_)
            obtain ⟨hM_e, hX_e⟩ := Ev.onw_end hw_e (by decide)
            clear hw_e
            go_wp2
            refine bodyPost_ret (Ev.results_c1 rfl rfl hX_e Tryd.underlying104 rfl (by kernel_rfl) rfl) rfl ⟨?_, hM_e.after TB.out TB.out.size (fun q hq => by omega)⟩
            unfold doesF okB
            rw [← hN]; simp only []; rw [q1, q2, q3]
            rfl
          · refine Ev.region_ev (Ev.Onw Wt (w.heap.size + 1 + 1) 104 z104.c (En.c ⟨true, x.fl, x.val⟩) 23) (by kernel_rfl) (by kernel_rfl) (Ev.onw_start T6.out) ?_
            refine Ev.ev_step (v := .agg (En.c ⟨true, x.fl, x.val⟩)) rfl rfl (Ev.onw_read (by decide) (fun w2 hm => Ev.run_load_whole 104 (.tmp 5) rfl (w.heap.size + 1) rfl 104 _ _ (hm.blk T5.out (by omega)) Tryd.underlying104 rfl (by kernel_rfl))) ?_
            simp only [Act.put, List.setIfInBounds_toArray, List.set_cons_succ, List.set_cons_zero]
            refine Ev.ev_step (v := .pointer (some ⟨γ.1, 0, none⟩)) rfl rfl (Ev.onw_pure (by decide) (fun _ => by first | rfl | (go_simp; done) | (go_simp; rfl))) ?_
            simp only [Act.put, List.setIfInBounds_toArray, List.set_cons_succ, List.set_cons_zero]
            refine Ev.ev_step (v := .int .i64 a.kind) rfl rfl (Ev.onw_read (by decide) (fun w2 hm => by have c : w2.cell? ⟨γ.1, 0, none⟩ = some (.int .i64 a.kind) := blk_cell (hm.blk TA.out NA.out) 0; go_simp)) ?_
            simp only [Act.put, List.setIfInBounds_toArray, List.set_cons_succ, List.set_cons_zero]
            refine Ev.ev_step (v := .pointer (some ⟨w.heap.size, 11, none⟩)) rfl rfl (Ev.onw_pure (by decide) (fun _ => by first | rfl | (go_simp; done) | (go_simp; rfl))) ?_
            simp only [Act.put, List.setIfInBounds_toArray, List.set_cons_succ, List.set_cons_zero]
            refine Ev.ev_step (v := .pointer (some ⟨w.heap.size, 11, none⟩)) rfl rfl (Ev.onw_pure (by decide) (fun _ => by first | rfl | (go_simp; done) | (go_simp; rfl))) ?_
            simp only [Act.put, List.setIfInBounds_toArray, List.set_cons_succ, List.set_cons_zero]
            refine Ev.ev_step (v := .int .i64 o.a.kind) rfl rfl (Ev.onw_read (by decide) (fun w2 hm => by have c : w2.cell? ⟨w.heap.size, 11, none⟩ = some (.int .i64 o.a.kind) := blk_cell (hm.blk T4.out (by omega)) 11; go_simp)) ?_
            simp only [Act.put, List.setIfInBounds_toArray, List.set_cons_succ, List.set_cons_zero]
            refine Ev.ev_step (v := .bool (a.kind == o.a.kind)) rfl rfl (Ev.onw_pure (by decide) (fun _ => by first | rfl | (go_simp; done) | (go_simp; rfl))) ?_
            simp only [Act.put, List.setIfInBounds_toArray, List.set_cons_succ, List.set_cons_zero]; rw [q1]
            refine Ev.ev_step (v := .bool true) rfl rfl (Ev.onw_pure (by decide) (fun _ => by first | rfl | (go_simp; done) | (go_simp; rfl))) ?_
            simp only [Act.put, List.setIfInBounds_toArray, List.set_cons_succ, List.set_cons_zero]
            refine Ev.ev_on (v := .pointer (some ⟨γ.1, 3, none⟩)) (by kernel_rfl) rfl (Ev.onw_pure (by decide) (fun _ => by first | rfl | (go_simp; done) | (go_simp; rfl))) ?_
            simp only [Act.put, List.setIfInBounds_toArray, List.set_cons_succ, List.set_cons_zero]
            refine Ev.ev_on (v := .int .u64 a.num) (by kernel_rfl) rfl (Ev.onw_read (by decide) (fun w2 hm => by have c : w2.cell? ⟨γ.1, 3, none⟩ = some (.int .u64 a.num) := blk_cell (hm.blk TA.out NA.out) 3; go_simp)) ?_
            simp only [Act.put, List.setIfInBounds_toArray, List.set_cons_succ, List.set_cons_zero]
            refine Ev.ev_on (v := .pointer (some ⟨w.heap.size, 11, none⟩)) (by kernel_rfl) rfl (Ev.onw_pure (by decide) (fun _ => by first | rfl | (go_simp; done) | (go_simp; rfl))) ?_
            simp only [Act.put, List.setIfInBounds_toArray, List.set_cons_succ, List.set_cons_zero]
            refine Ev.ev_on (v := .pointer (some ⟨w.heap.size, 14, none⟩)) (by kernel_rfl) rfl (Ev.onw_pure (by decide) (fun _ => by first | rfl | (go_simp; done) | (go_simp; rfl))) ?_
            simp only [Act.put, List.setIfInBounds_toArray, List.set_cons_succ, List.set_cons_zero]
            refine Ev.ev_on (v := .int .u64 o.a.num) (by kernel_rfl) rfl (Ev.onw_read (by decide) (fun w2 hm => by have c : w2.cell? ⟨w.heap.size, 14, none⟩ = some (.int .u64 o.a.num) := blk_cell (hm.blk T4.out (by omega)) 14; go_simp)) ?_
            simp only [Act.put, List.setIfInBounds_toArray, List.set_cons_succ, List.set_cons_zero]
            refine Ev.ev_on (v := .bool (a.num == o.a.num)) (by kernel_rfl) rfl (Ev.onw_pure (by decide) (fun _ => by first | rfl | (go_simp; done) | (go_simp; rfl))) ?_
            simp only [Act.put, List.setIfInBounds_toArray, List.set_cons_succ, List.set_cons_zero]; rw [q2]
            refine Ev.ev_step (v := .bool true) rfl rfl (Ev.onw_pure (by decide) (fun _ => by first | rfl | (go_simp; done) | (go_simp; rfl))) ?_
            simp only [Act.put, List.setIfInBounds_toArray, List.set_cons_succ, List.set_cons_zero]
            refine Ev.ev_step (v := .bool true) rfl rfl (Ev.onw_pure (by decide) (fun _ => by first | rfl | (go_simp; done) | (go_simp; rfl))) ?_
            simp only [Act.put, List.setIfInBounds_toArray, List.set_cons_succ, List.set_cons_zero]
            refine Ev.ev_on (v := .pointer (some ⟨γ.1, 4, none⟩)) (by kernel_rfl) rfl (Ev.onw_pure (by decide) (fun _ => by first | rfl | (go_simp; done) | (go_simp; rfl))) ?_
            simp only [Act.put, List.setIfInBounds_toArray, List.set_cons_succ, List.set_cons_zero]
            refine Ev.ev_on (v := .string a.text) (by kernel_rfl) rfl (Ev.onw_read (by decide) (fun w2 hm => by have c : w2.cell? ⟨γ.1, 4, none⟩ = some (.string a.text) := blk_cell (hm.blk TA.out NA.out) 4; go_simp)) ?_
            simp only [Act.put, List.setIfInBounds_toArray, List.set_cons_succ, List.set_cons_zero]
            refine Ev.ev_on (v := .pointer (some ⟨w.heap.size, 11, none⟩)) (by kernel_rfl) rfl (Ev.onw_pure (by decide) (fun _ => by first | rfl | (go_simp; done) | (go_simp; rfl))) ?_
            simp only [Act.put, List.setIfInBounds_toArray, List.set_cons_succ, List.set_cons_zero]
            refine Ev.ev_on (v := .pointer (some ⟨w.heap.size, 15, none⟩)) (by kernel_rfl) rfl (Ev.onw_pure (by decide) (fun _ => by first | rfl | (go_simp; done) | (go_simp; rfl))) ?_
            simp only [Act.put, List.setIfInBounds_toArray, List.set_cons_succ, List.set_cons_zero]
            refine Ev.ev_on (v := .string o.a.text) (by kernel_rfl) rfl (Ev.onw_read (by decide) (fun w2 hm => by have c : w2.cell? ⟨w.heap.size, 15, none⟩ = some (.string o.a.text) := blk_cell (hm.blk T4.out (by omega)) 15; go_simp)) ?_
            simp only [Act.put, List.setIfInBounds_toArray, List.set_cons_succ, List.set_cons_zero]
            refine Ev.ev_on (v := .bool (a.text.toList == o.a.text.toList)) (by kernel_rfl) rfl (Ev.onw_pure (by decide) (fun _ => by first | rfl | (go_simp; done) | (go_simp; rfl))) ?_
            simp only [Act.put, List.setIfInBounds_toArray, List.set_cons_succ, List.set_cons_zero]; rw [q3]
            refine Ev.ev_step (v := .bool true) rfl rfl (Ev.onw_pure (by decide) (fun _ => by first | rfl | (go_simp; done) | (go_simp; rfl))) ?_
            simp only [Act.put, List.setIfInBounds_toArray, List.set_cons_succ, List.set_cons_zero]
            refine Ev.ev_step (v := undef) rfl rfl (Ev.onw_store 104 (.tmp 6) (.tmp 64) rfl rfl rfl rfl (by kernel_rfl) (en_one _)) ?_
            simp only [Act.put]
            refine Ev.ev_step (v := .bool true) rfl rfl (Ev.onw_pure (by decide) (fun _ => by first | rfl | (go_simp; done) | (go_simp; rfl))) ?_
            simp only [Act.put, List.setIfInBounds_toArray, List.set_cons_succ, List.set_cons_zero]
            refine Ev.ev_nil (fun w_e hw_e => ?_)
            obtain ⟨hM_e, hX_e⟩ := Ev.onw_end hw_e (by decide)
            clear hw_e
            go_wp2
            refine bodyPost_ret (Ev.results_c1 rfl rfl hX_e Tryd.underlying104 rfl (by kernel_rfl) rfl) rfl ⟨?_, hM_e.after TB.out TB.out.size (fun q hq => by omega)⟩
            unfold doesF okB
            rw [← hN]; simp only []; rw [q1, q2, q3]
            rfl
end Go.Proofs.YtepklobkppdliaaDoor.Hs
namespace Go.Proofs.YtepklobkppdliaaDoor.Hs
open Go.RowKit Go.Proofs.YtepklobkppdliaaDoorW.PrintWords Go.Proofs.YtepklobkppdliaaDoorW.PrintLast Go.Proofs.YtepklobkppdliaaDoorW.PrintMore Go.Proofs.YtepklobkppdliaaDoor.Lib Go.Proofs.YtepklobkppdliaaDoor.Open Go.Proofs.YtepklobkppdliaaDoor.Md
theorem Ev.run_load_part {P : Program} {o : Oper} {a : Act} {w : World} (ty : TypeId) (x : Operand) (ho : o.op = .load ty x) (b off : Nat) (hx : a.eval x = .pointer (some ⟨b, off, none⟩)) (cs : List Value) (d : TypeDesc) (hc : w.rangeAt b off cs)
    (hu : P.underlying ty = some d) (hd : d.isRow = true) (hi : (P.info? ty).map (·.size) = some cs.length) : (execOp a.eval o).run P w = .ok (.value (.agg cs.toArray)) w := by
  unfold execOp
  simp only [ho, hx, Instr.loadAt, Instr.sureAddr, Sem.run_bind, Sem.run_pure, Result.andThen_ok, run_loadVar_mid w b off ty cs d hc hu hd hi]
theorem range_part {w : World} {b off : Nat} {t : TypeId} {cs : Array Value} {l : List Value} (hb : w.heap[b]? = some (.cells cs t (0, 0))) (h : ∀ j u, l[j]? = some u → cs[off + j]? = some u) : w.rangeAt b off l := fun j u hu => by
  rw [blk_cell hb]
  exact h j u hu
theorem op_ans (o : Opn) : ∀ j u, (o.a.c (.slice o.vA o.vs.length o.vc)).toList[j]? = some u → o.c.toArray[11 + j]? = some u := by
  intro j u h
  match j with
  | 0 | 1 | 2 | 3 | 4 | 5 | 6 | 7 | 8 => exact h
  | j + 9 => simp [Aw.c] at h
theorem mod_cell {S : Nat → Prop} {w W : World} {p : Addr} (hm : Mod S w W) (hp : ¬ S p.block) (hl : p.block < w.heap.size) : W.cell? p = w.cell? p := by
  unfold World.cell?
  rw [hm.block _ hl hp]
/-- An argument of an elder world, none of whose cells has been written. -/
theorem arg_far {α : Type} {cl : α → List Value} {w0 w W : World} {A : Option Addr} {n : Nat} {xs : List α} {g : Nat} (h : Arg cl w0 A n xs) (hm : Mod (fun q => q = g) w W) (hb : Below w0.heap.size w0 w ∧ w0.heap.size ≤ g) : Arg cl W A n xs :=
  ⟨h.1, h.2.1, fun hn => by
    obtain ⟨q, o, e, hr⟩ := h.2.2 hn
    exact ⟨q, o, e, fun j v hv => pw_cell_below (hm.after hb.1 hb.1.size (fun q' hq' => by rw [hq']; exact hb.2)) (hr j v hv)⟩⟩
theorem blks3 (w : World) (o1 o2 o3 : Obj) : (((w.alloc o1).alloc o2).alloc o3).heap[w.heap.size]? = some o1 ∧ (((w.alloc o1).alloc o2).alloc o3).heap[w.heap.size + 1]? = some o2 ∧ (((w.alloc o1).alloc o2).alloc o3).heap[w.heap.size + 1 + 1]? = some o3 ∧ Below w.heap.size w (((w.alloc o1).alloc o2).alloc o3) := by
  have s1 : (w.alloc o1).heap.size = w.heap.size + 1 := by simp
  have s2 : ((w.alloc o1).alloc o2).heap.size = w.heap.size + 1 + 1 := by simp
  refine ⟨?_, ?_, ?_, below_alloc (below_alloc (below_alloc (Below.refl _ _) _) _) _⟩
  · rw [heap_at, heap_at, heap_at, s1, s2, if_neg (by omega), if_neg (by omega), if_pos rfl]
  · rw [heap_at, heap_at, s1, s2, if_neg (by omega), if_pos rfl]
  · rw [heap_at, s2, if_pos rfl]
set_option maxHeartbeats 16000000 in
set_option maxRecDepth 100000 in
theorem does_get (g : Nat) (key : ByteArray) (o : Opn) (e : En) (w : World) (hc : w.cell? ⟨g, 0, none⟩ = some (.string key)) (hv : o.r.verb = 1) (hvs : Arg Fd.c w o.vA o.vs.length o.vs) :
    Calls Tryd.prog 76 #[.pointer (some ⟨g, 0, none⟩), .agg o.c.toArray, .agg e.c] w fun e_ w' => e_ = .returned (.tuple #[.agg e.c, .bool (toldB key o.a o.vs e)]) ∧ Below w.heap.size w w' := by
  have v1 : (o.r.verb == 1) = true := by rw [hv]; rfl
  have v13 : (o.r.verb == 13) = false := by rw [hv]; rfl
  obtain ⟨b4, b5, b6, hB⟩ := blks3 w (.cells o.c.toArray 97) (.cells e.c 104) (.cells z104.c 104)
  have hgl := World.block_lt_of_cell? _ _ hc
  have HV := Aside0.mk hvs
  have HC := Aside0.mk hc
  have HB0 := Aside0.mk hB
  have B40 := Aside0.mk b4
  have B50 := Aside0.mk b5
  have B60 := Aside0.mk b6
  clear hc hvs hv b4 b5 b6 hB
  simp only [Opn.c, En.c]
  go_enter Tryd.func76, Tryd.ntmps76
  go_wp2
  change Code.wp _ _ _ _ (((w.alloc (.cells o.c.toArray 97)).alloc (.cells e.c 104)).alloc (.cells z104.c 104))
  obtain ⟨W, hW⟩ : ∃ W, W = ((w.alloc (.cells o.c.toArray 97)).alloc (.cells e.c 104)).alloc (.cells z104.c 104) := ⟨_, rfl⟩
  have B4 := B40
  have B5 := B50
  have B6 := B60
  have HB := HB0
  rw [← hW] at B4 B5 B6 HB ⊢
  have HG := Aside0.mk (show g < w.heap.size from hgl)
  have hgW : (⟨g, 0, none⟩ : Addr).block < W.heap.size := Nat.lt_of_lt_of_le hgl HB.out.size
  have CG : Aside0 (W.cell? ⟨g, 0, none⟩ = some (.string key)) := ⟨pw_cell_below HB.out HC.out⟩
  have HVB : Aside0 (Below w.heap.size w W ∧ w.heap.size ≤ w.heap.size + 1 + 1) := ⟨HB.out, by omega⟩
  clear hW B40 B50 B60 HB0
  refine Ev.region_ev (Ev.Onw W (w.heap.size + 1 + 1) 104 z104.c e.c 6) (by kernel_rfl) (by kernel_rfl) (Ev.onw_start B6.out) ?_
  refine Ev.ev_step (v := .agg e.c) rfl rfl (Ev.onw_read (by decide) (fun w2 hm => Ev.run_load_whole 104 (.tmp 5) rfl (w.heap.size + 1) rfl 104 _ _ (hm.blk B5.out (by omega)) Tryd.underlying104 rfl (by kernel_rfl))) ?_
  simp only [Act.put, List.setIfInBounds_toArray, List.set_cons_succ, List.set_cons_zero]
  refine Ev.ev_step (v := .pointer (some ⟨g, 0, none⟩)) rfl rfl (Ev.onw_pure (by decide) (fun _ => by first | rfl | (go_simp; done) | (go_simp; rfl))) ?_
  simp only [Act.put, List.setIfInBounds_toArray, List.set_cons_succ, List.set_cons_zero]
  refine Ev.ev_step (v := .pointer (some ⟨w.heap.size, 11, none⟩)) rfl rfl (Ev.onw_pure (by decide) (fun _ => by first | rfl | (go_simp; done) | (go_simp; rfl))) ?_
  simp only [Act.put, List.setIfInBounds_toArray, List.set_cons_succ, List.set_cons_zero]
  refine Ev.ev_step (v := .agg (o.a.c (.slice o.vA o.vs.length o.vc))) rfl rfl (Ev.onw_read (by decide) (fun w2 hm => Ev.run_load_part 32 (.tmp 26) rfl w.heap.size 11 rfl (o.a.c (.slice o.vA o.vs.length o.vc)).toList _ (range_part (hm.blk B4.out (by omega)) (fun j u hu => op_ans o j u hu)) Tryd.underlying32 rfl (by kernel_rfl))) ?_
  simp only [Act.put, List.setIfInBounds_toArray, List.set_cons_succ, List.set_cons_zero]
  refine Ev.ev_step (v := .agg e.c) rfl rfl (Ev.onw_read (by decide) (fun w2 hm => Ev.run_load_whole 104 (.tmp 5) rfl (w.heap.size + 1) rfl 104 _ _ (hm.blk B5.out (by omega)) Tryd.underlying104 rfl (by kernel_rfl))) ?_
  simp only [Act.put, List.setIfInBounds_toArray, List.set_cons_succ, List.set_cons_zero]
  refine Ev.ev_step (v := .bool (toldB key o.a o.vs e)) rfl rfl (Ev.onw_call (by decide) 90 #[.pointer (some ⟨g, 0, none⟩), .agg (o.a.c (.slice o.vA o.vs.length o.vc)), .agg e.c] (fun w2 => by kernel_rfl) (fun w2 hm => told_calls g key o.a o.vs o.vA o.vc e w2 ((mod_cell hm (by have := HG.out; show ¬ g = _; omega) hgW).trans CG.out) (arg_far HV.out hm HVB.out))) ?_
  simp only [Act.put, List.setIfInBounds_toArray, List.set_cons_succ, List.set_cons_zero]
  refine Ev.ev_step (v := undef) rfl rfl (Ev.onw_store 104 (.tmp 6) (.tmp 24) rfl rfl rfl rfl (by kernel_rfl) (en_one _)) ?_
  simp only [Act.put]
  refine Ev.ev_step (v := .bool (toldB key o.a o.vs e)) rfl rfl (Ev.onw_pure (by decide) (fun _ => by first | rfl | (go_simp; done) | (go_simp; rfl))) ?_
  simp only [Act.put, List.setIfInBounds_toArray, List.set_cons_succ, List.set_cons_zero]
  refine Ev.ev_nil (fun w_e hw_e => ?_)
  obtain ⟨hM_e, hX_e⟩ := Ev.onw_end hw_e (by decide)
  clear hw_e
  go_wp2
  exact bodyPost_ret (Ev.results_c1 rfl rfl hX_e Tryd.underlying104 rfl (by kernel_rfl) rfl) rfl ⟨rfl, hM_e.after HB.out HB.out.size (fun q hq => by omega)⟩
/-- What a call does to an entry; and may it have answered so? -/
def doesA (key : ByteArray) (o : Opn) (e : En) : En × Bool := if o.r.verb = 1 then (e, toldB key o.a o.vs e) else doesF key o e
theorem does_calls (g : Nat) (key : ByteArray) (o : Opn) (e : En) (w : World) (hc : w.cell? ⟨g, 0, none⟩ = some (.string key)) (hkv : o.kv.oneCell' = true) (hvs : Arg Fd.c w o.vA o.vs.length o.vs) (hv : o.r.verb ≠ 13) (hF : Fine o.r (ent0 key e)) (ht : Pow w) :
    Calls Tryd.prog 76 #[.pointer (some ⟨g, 0, none⟩), .agg o.c.toArray, .agg e.c] w fun e_ w' => e_ = .returned (.tuple #[.agg (doesA key o e).1.c, .bool (doesA key o e).2]) ∧ Below w.heap.size w w' := by
  unfold doesA
  by_cases h : o.r.verb = 1
  · rw [if_pos h]
    exact does_get g key o e w hc h hvs
  · rw [if_neg h]
    exact does_other g key o e w hc hkv ⟨h, hv⟩ hF ht
end Go.Proofs.YtepklobkppdliaaDoor.Hs
namespace Go.Proofs.YtepklobkppdliaaDoor.Hs
open Go.RowKit Go.Proofs.YtepklobkppdliaaDoorW.PrintWords Go.Proofs.YtepklobkppdliaaDoorW.PrintLast Go.Proofs.YtepklobkppdliaaDoorW.PrintMore Go.Proofs.YtepklobkppdliaaDoor.Lib Go.Proofs.YtepklobkppdliaaDoor.Open Go.Proofs.YtepklobkppdliaaDoor.Md
open Go.Maps (Keyed IsMap)
set_option maxRecDepth 1000000 in
theorem laidOutT : laidOutB Tryd.prog = true := by kernel_rfl
set_option maxRecDepth 1000000 in
theorem row128 : (128 : TypeId) < Tryd.prog.types.size := of_decide_eq_true (by kernel_rfl)
set_option maxRecDepth 1000000 in
theorem wide128 : (match Tryd.prog.underlying 128 with | some (.array _ _) | some (.struct _) => true | _ => false) = true := by rw [Tryd.underlying128]
set_option maxRecDepth 1000000 in
theorem law128 : Keyed Tryd.prog 128 := Keyed.of_law (deep_law_laid laidOutT (m := 3) (by omega) row128 (by kernel_rfl) wide128)
set_option maxRecDepth 1000000 in
theorem keyType128 : Tryd.prog.keyType 128 = true := by kernel_rfl
/-- An entry that the set can hold. -/
structure EnOk (e : En) : Prop where
  sz : e.val.size ≤ 140737488355328
  wf : (Lit.int .i64 e.fl).wf = true
/-- What the set is asked. -/
def tk (d : Nat) (e : En) : Value := .agg #[.int .i64 (d : Int), .bool e.there, .int .i64 e.fl, .string e.val]
set_option maxRecDepth 1000000 in
theorem key_tk (d : Nat) (e : En) (hd : d < 1024) (he : EnOk e) : ∃ l, keyOf Tryd.prog 128 (tk d e) = some l := by
  have h1 : (Lit.int .i64 (d : Int)).wf = true := by
    have : ∀ d < 1024, (Lit.int .i64 ((d : Nat) : Int)).wf = true := by decide +kernel
    exact this d hd
  have h2 := he.wf
  have h3 : e.val.size ≤ maxLen := by have := he.sz; unfold maxLen; omega
  unfold keyOf
  rw [Tryd.underlying128]
  simp only
  have hf : (tk d e).formed Tryd.prog 128 = true := by
    unfold Value.formed tk
    simp only [Tryd.underlying128]
    kernel_rfl
  rw [keyType128, hf]
  simp only [Bool.and_self, if_true]
  have hl : ∃ ls, Tryd.prog.keyLits (Tryd.prog.types.size + 1) 128 (tk d e).cells.toList = some ls := by
    obtain ⟨m, hm⟩ : ∃ m, Tryd.prog.types.size = m + 2 := ⟨Tryd.prog.types.size - 2, by have : 128 < Tryd.prog.types.size := row128; omega⟩
    rw [hm]
    have c128 : Tryd.prog.cellsOf 128 = 4 := by kernel_rfl
    have c104 : Tryd.prog.cellsOf 104 = 3 := by kernel_rfl
    have c3 : Tryd.prog.cellsOf 3 = 1 := by kernel_rfl
    have c4 : Tryd.prog.cellsOf 4 = 1 := by kernel_rfl
    have c9 : Tryd.prog.cellsOf 9 = 1 := by kernel_rfl
    have i3 : Tryd.prog.keyLits (m + 2) 3 [.int .i64 (d : Int)] = some [.int .i64 (d : Int)] := by
      unfold Program.keyLits
      rw [Tryd.underlying3]
      simp [h1]
    have i3' : Tryd.prog.keyLits (m + 1) 3 [.int .i64 e.fl] = some [.int .i64 e.fl] := by
      unfold Program.keyLits
      rw [Tryd.underlying3]
      simp [h2]
    have i4 : Tryd.prog.keyLits (m + 1) 4 [.bool e.there] = some [.bool e.there] := by
      unfold Program.keyLits
      rw [Tryd.underlying4]
    have i9 : Tryd.prog.keyLits (m + 1) 9 [.string e.val] = some [.string e.val.data.toList] := by
      unfold Program.keyLits
      rw [Tryd.underlying9]
      simp [h3]
    have i104 : Tryd.prog.keyLits (m + 2) 104 [.bool e.there, .int .i64 e.fl, .string e.val] = some [.bool e.there, .int .i64 e.fl, .string e.val.data.toList] := by
      unfold Program.keyLits
      rw [Tryd.underlying104]
      simp [c104, c3, c4, c9, i3', i4, i9]
    unfold Program.keyLits
    rw [Tryd.underlying128]
    simp [tk, Value.cells, c128, c104, c3, i3, i104]
  obtain ⟨ls, hl⟩ := hl
  rw [hl]
  exact ⟨_, rfl⟩
noncomputable def kl (d : Nat) (e : En) : Lit := (keyOf Tryd.prog 128 (tk d e)).getD (.bool false)
theorem kl_eq {d : Nat} {e : En} (hd : d < 1024) (he : EnOk e) : keyOf Tryd.prog 128 (tk d e) = some (kl d e) := by
  obtain ⟨l, h⟩ := key_tk d e hd he
  unfold kl
  rw [h]
  rfl
theorem kl_inj {d d' : Nat} {e e' : En} (hd : d < 1024) (he : EnOk e) (hd' : d' < 1024) (he' : EnOk e') (h : kl d e = kl d' e') : d = d' ∧ e = e' := by
  have h1 := law128.inj (kl_eq hd he) (by rw [h]; exact kl_eq hd' he')
  unfold tk at h1
  obtain ⟨a1, a2, a3⟩ := e
  obtain ⟨b1, b2, b3⟩ := e'
  simp at h1
  obtain ⟨g1, g2, g3, g4⟩ := h1
  exact ⟨by omega, by rw [g2, g3, g4]⟩
theorem zero129 (w : World) : (zeroValue 129).run Tryd.prog w = .ok (.agg #[]) w := by kernel_rfl
/-- Block b is a set of at most n; what it holds is F. -/
def Ts (w : World) (b n : Nat) (F : Nat → En → Prop) : Prop := ∃ D : DataW Unit, w.ownsMap Tryd.prog 128 unitElem b n D ∧ ∀ d e, d < 1024 → EnOk e → Maps.has D (kl d e) = true → F d e
section
variable {w w' : World} {b n : Nat} {F : Nat → En → Prop}
theorem Ts.map (h : Ts w b n F) : ∃ es c, w.heap[b]? = some (.map es c) := by
  obtain ⟨D, ⟨es, clock, h1, _⟩, _⟩ := h
  exact ⟨es, clock, h1⟩
theorem Ts.lt (h : Ts w b n F) : b < w.heap.size := by
  obtain ⟨D, h, _⟩ := h
  exact h.lt
theorem Ts.below (h : Ts w b n F) (hm : Below w.heap.size w w') : Ts w' b n F := by
  obtain ⟨D, ⟨es, clock, h1, h2⟩, hk⟩ := h
  exact ⟨D, ⟨es, clock, (hm.block b (blk_lt h1)).trans h1, h2⟩, hk⟩
theorem Ts.mono (h : Ts w b n F) {m : Nat} (hn : n ≤ m) : Ts w b m F := by
  obtain ⟨D, h, hk⟩ := h
  exact ⟨D, h.mono hn, hk⟩
theorem Ts.new (w : World) (F : Nat → En → Prop) : Ts (w.alloc (.map #[] 0)) w.heap.size 0 F :=
  ⟨_, World.ownsMap_made w Tryd.prog 128 unitElem, fun d e _ _ h => by
    have : Maps.has (DataW.map ([] : List (Lit × DataW Unit))) (kl d e) = false := rfl
    rw [this] at h
    cases h⟩
theorem Ts.look (h : Ts w b n F) (d : Nat) (e : En) (hd : d < 1024) (he : EnOk e) : ∃ ok, (ok = true → F d e) ∧ ∀ w' : World, w'.heap[b]? = w.heap[b]? → (Instr.lookup 99 (.map (some b)) (tk d e) true).run Tryd.prog w' = .ok (.tuple #[.agg #[], .bool ok]) w' := by
  obtain ⟨D, ⟨es, clock, h1, h2⟩, hf⟩ := h
  refine ⟨Maps.has D (kl d e), fun hk => hf d e hd he hk, fun w' hw => ?_⟩
  have h' : w'.ownsMap Tryd.prog 128 unitElem b n D := ⟨es, clock, hw.trans h1, h2⟩
  obtain ⟨v, ps, hr, hv⟩ := h'.look_ok law128 Tryd.underlying99 (zero129 w') unitElem_mk (kl_eq hd he)
  obtain ⟨rfl, _⟩ := unitElem_inv hv
  exact hr
theorem Ts.store (h : Ts w b n F) (hn : n < maxLen) (d : Nat) (e : En) (hd : d < 1024) (he : EnOk e) (hF : F d e) : ∃ w', (Instr.mapUpdate 99 (.map (some b)) (tk d e) (.agg #[])).run Tryd.prog w = .ok () w' ∧ Ts w' b (n + 1) F ∧ Mod (fun q => q = b) w w' := by
  obtain ⟨D, h, hf⟩ := h
  obtain ⟨w', hr, ho, hg⟩ := h.update law128 Tryd.underlying99 hn (kl_eq hd he) unitElem_mk
  refine ⟨w', hr, ⟨_, ho, fun d' e' hd' he' hk => ?_⟩, (Mod.of_grown hg).mono (fun q hq => by injection hq)⟩
  by_cases hj : kl d e = kl d' e'
  · obtain ⟨rfl, rfl⟩ := kl_inj hd he hd' he' hj
    exact hF
  · rw [Maps.has_put_other (fun x => hj x.symm)] at hk
    exact hf d' e' hd' he' hk
end
/-- The set is written, by one operation of a region that draws its order. -/
structure Tst (W : World) (b n : Nat) (F : Nat → En → Prop) (i0 : Nat) (S : Array Bool) (w : World) : Prop where
  mod : Mod (fun q => q = b) W w
  pre : S.getD i0 false = false → w = W.drew
  post : S.getD i0 false = true → Ts w b n F
section
variable {ops : Array Oper} {o : Oper} {a : Act} {W : World} {b n : Nat} {F : Nat → En → Prop} {md : Region.Mode} {i0 : Nat}
theorem tst_start {m : Nat} : Tst W b n F i0 (Array.replicate m false) W.drew := ⟨(Mod.refl _ _).drew, fun _ => rfl, fun h => absurd h Ev.not_repl⟩
theorem tst_end {m : Nat} {w : World} (h : Tst W b n F i0 (Array.replicate m true) w) (h0 : i0 < m) : Mod (fun q => q = b) W w ∧ Ts w b n F := ⟨h.mod, h.post (Ev.repl_at h0)⟩
theorem tst_idle {i : Nat} (h : i ≠ i0) : Ev.Idle (Tst W b n F i0) i := fun S w _ hC => ⟨hC.mod, by rw [Ev.set_other h]; exact hC.pre, by rw [Ev.set_other h]; exact hC.post⟩
theorem tst_pure {i : Nat} {v : Value} (hi : i ≠ i0) (h : ∀ w, (execOp a.eval o).run Tryd.prog w = .ok (.value v) w) : Ev.Does Tryd.prog md (Tst W b n F i0) i o a v := Ev.does_pure (tst_idle hi) h
theorem tst_read {i : Nat} {v : Value} (hi : i ≠ i0) (h : ∀ w, Mod (fun q => q = b) W w → (execOp a.eval o).run Tryd.prog w = .ok (.value v) w) : Ev.Does Tryd.prog md (Tst W b n F i0) i o a v := fun S w h0 _ hC => by
  rw [h w hC.mod]
  exact ⟨rfl, tst_idle hi S w h0 hC⟩
theorem tst_store (x y z : Operand) (ho : o.op = .mapUpdate 99 x y z) (hx : a.eval x = .map (some b)) (d : Nat) (e : En) (hy : a.eval y = tk d e) (hz : a.eval z = .agg #[]) (hM : Ts W b n F) (hn : n < maxLen) (hd : d < 1024) (he : EnOk e) (hF : F d e) :
    Ev.Does Tryd.prog md (Tst W b (n + 1) F i0) i0 o a undef := fun S w h0 _ hC => by
  obtain rfl := hC.pre (Ev.get_false h0)
  obtain ⟨w', hrun, r1, r2⟩ := (show Ts W.drew b n F from hM).store hn d e hd he hF
  have hr : (execOp a.eval o).run Tryd.prog W.drew = .ok (.value undef) w' ∨ (execOp a.eval o).run Tryd.prog W.drew = .ok .skip w' := by
    simp [execOp, ho, hx, hy, hz, hrun, Result.andThen]
  have hD : Tst W b (n + 1) F i0 (S.setIfInBounds i0 true) w' := by
    refine ⟨hC.mod.trans r2 (fun q hq => .inl hq), fun h => ?_, fun _ => r1⟩
    rw [Ev.set_same h0] at h
    cases h
  rcases hr with hr | hr
  · rw [hr]
    exact ⟨rfl, hD⟩
  · rw [hr]
    exact ⟨rfl, hD⟩
end
end Go.Proofs.YtepklobkppdliaaDoor.Hs
namespace Go.Proofs.YtepklobkppdliaaDoor.Hs
open Go.RowKit Go.Proofs.YtepklobkppdliaaDoorW.PrintWords Go.Proofs.YtepklobkppdliaaDoorW.PrintLast Go.Proofs.YtepklobkppdliaaDoorW.PrintMore Go.Proofs.YtepklobkppdliaaDoor.Lib Go.Proofs.YtepklobkppdliaaDoor.Open Go.Proofs.YtepklobkppdliaaDoor.Md
open Go.Maps (Keyed IsMap)
def leftB (ops : List Opn) (d : Nat) : Bool := ops.zipIdx.any (fun p => decide (0 ≤ p.1.ti) && !d.testBit p.2)
/-- How many are left. -/
def cnt : Nat → Nat → Nat
  | 0, _ => 0
  | N + 1, d => cnt N d + if d.testBit N then 0 else 1
/-- A call next, at an entry; what is behind it is asked of 'rec'. -/
def tryG (rec : Nat → En → Bool) (key : ByteArray) (ops : List Opn) (i d : Nat) (e : En) : Bool := match ops[i]? with
  | none => false
  | some o => (((doesA key o e).2 || (decide (0 ≤ o.ti) && (o.a.kind == 14)) || decide (o.ti < 0)) && rec (d ||| 1 <<< i) (doesA key o e).1) || ((decide (0 ≤ o.ti) && (o.a.kind == 14)) && rec (d ||| 1 <<< i) e)
/-- Is there an order of those that are left? -/
def fromB (key : ByteArray) (ops : List Opn) : Nat → Nat → En → Bool
  | 0, _, _ => true
  | m + 1, d, e => !leftB ops d || (List.range ops.length).any (fun i => mayB ops i d && (tryG (fromB key ops m) key ops i d e || tryG (fromB key ops m) key ops i d z104))
theorem bit_or (d i k : Nat) : (d ||| 1 <<< i).testBit k = (d.testBit k || decide (k = i)) := by
  rw [Nat.testBit_or, Nat.testBit_shiftLeft]
  congr 1
  by_cases h : k = i
  · subst h; simp
  · by_cases h2 : i ≤ k
    · rw [decide_eq_true (show k ≥ i from h2), Bool.true_and, decide_eq_false h]
      obtain ⟨j, hj⟩ : ∃ j, k - i = j + 1 := ⟨k - i - 1, by omega⟩
      rw [hj, Nat.testBit_succ]
      simp
    · rw [decide_eq_false (show ¬ k ≥ i from h2), Bool.false_and, decide_eq_false h]
theorem cnt_or (d i : Nat) (h : d.testBit i = false) : ∀ N, if i < N then cnt N (d ||| 1 <<< i) + 1 = cnt N d else cnt N (d ||| 1 <<< i) = cnt N d
  | 0 => by rw [if_neg (by omega)]; rfl
  | N + 1 => by
    have ih := cnt_or d i h N
    unfold cnt
    rw [bit_or]
    by_cases h1 : i < N
    · rw [if_pos h1] at ih
      rw [if_pos (by omega), decide_eq_false (show ¬ N = i by omega), Bool.or_false]
      omega
    · rw [if_neg h1] at ih
      by_cases h2 : i = N
      · subst h2
        rw [if_pos (by omega), decide_eq_true rfl, Bool.or_true, h, ih]
        simp
      · rw [if_neg (by omega), decide_eq_false (show ¬ N = i by omega), Bool.or_false, ih]
theorem or_at : ∀ d < 1024, ∀ i < 10, bits BinOp.or IntKind.i64 ((d : Nat) : Int) (wrap64 (2 ^ i)) = ((d ||| 1 <<< i : Nat) : Int) := by decide +kernel
theorem or_lt : ∀ d < 1024, ∀ i < 10, d ||| 1 <<< i < 1024 := by decide +kernel
structure OpOk (o : Opn) : Prop where
  verb : o.r.verb ≠ 13
  data : o.r.data.size ≤ 140737488355328
  delta : 0 ≤ o.r.delta
  fl : (Lit.int .i64 o.r.fl).wf = true
theorem next_fl (r : Rq) (e : Ent) (there : Bool) (now ver : Int) : (nextOf r e there now ver).2.1.fl = r.fl ∨ (nextOf r e there now ver).2.1.fl = e.fl := by
  unfold nextOf
  repeat' split
  all_goals first | exact .inl rfl | exact .inr rfl
theorem z_ok : EnOk z104 := ⟨by decide, by decide⟩
theorem fine_of {o : Opn} {e : En} (key : ByteArray) (ho : OpOk o) (he : EnOk e) : Fine o.r (ent0 key e) := ⟨ho.data, he.sz, ho.delta⟩
theorem does_ok {o : Opn} {e : En} (key : ByteArray) (ho : OpOk o) (he : EnOk e) : EnOk (doesA key o e).1 := by
  unfold doesA
  split
  · exact he
  · unfold doesF
    have h1 := (next_fine o.r (ent0 key e) e.there 0 1 (fine_of key ho he)).1
    have h2 := next_fl o.r (ent0 key e) e.there 0 1
    obtain ⟨N, hN⟩ : ∃ N, N = doesN key o e := ⟨_, rfl⟩
    unfold doesN at hN
    rw [← hN] at h1 h2
    unfold doesN
    rw [← hN]
    obtain ⟨a, x, kp, dr⟩ := N
    simp only
    split
    · exact z_ok
    · split
      · refine ⟨h1, ?_⟩
        show (Lit.int .i64 x.fl).wf = true
        rcases h2 with h2 | h2
        · rw [show x.fl = o.r.fl from h2]; exact ho.fl
        · rw [show x.fl = e.fl from h2]; exact he.wf
      · exact he
/-- A search: its set holds from where there is no order. -/
structure Se (w : World) (g b n : Nat) (key : ByteArray) (A : Option Addr) (cap : Nat) (ops : List Opn) : Prop where
  sq : Sq w g b key A cap ops
  ts : Ts w b n (fun d e => fromB key ops (cnt ops.length d) d e = false)
  pow : Pow w
  b0 : 0 < b
section
variable {w w' : World} {g b n : Nat} {key : ByteArray} {A : Option Addr} {cap : Nat} {ops : List Opn}
theorem Se.below (h : Se w g b n key A cap ops) (hb : Below w.heap.size w w') : Se w' g b n key A cap ops := ⟨h.sq.below hb, h.ts.below hb, h.pow.below hb, h.b0⟩
theorem Se.mono (h : Se w g b n key A cap ops) {m : Nat} (hn : n ≤ m) : Se w g b m key A cap ops := ⟨h.sq, h.ts.mono hn, h.pow, h.b0⟩
end
/-- How many entries the set gains. -/
def gain : Nat → Nat
  | 0 => 0
  | m + 1 => 1 + 40 * gain m
/-- The contract of from. -/
def FromAt (g b : Nat) (key : ByteArray) (A : Option Addr) (cap : Nat) (ops : List Opn) (m : Nat) : Prop :=
  ∀ (d : Nat) (e : En) (w : World) (n : Nat), cnt ops.length d = m → d < 1024 → EnOk e → Se w g b n key A cap ops → n + gain m ≤ 4611686018427387904 →
    Calls Tryd.prog 46 #[.pointer (some ⟨g, 0, none⟩), .int .i64 (d : Int), .agg e.c] w fun e_ w' => e_ = .returned (.bool (fromB key ops m d e)) ∧ Se w' g b (n + gain m) key A cap ops ∧ Mod (fun q => q = b) w w'
theorem tryG_eq {rec : Nat → En → Bool} {key : ByteArray} {ops : List Opn} {i d : Nat} {e : En} {o : Opn} (h : ops[i]? = some o) : tryG rec key ops i d e = ((((doesA key o e).2 || (decide (0 ≤ o.ti) && (o.a.kind == 14)) || decide (o.ti < 0)) && rec (d ||| 1 <<< i) (doesA key o e).1) || ((decide (0 ≤ o.ti) && (o.a.kind == 14)) && rec (d ||| 1 <<< i) e)) := by
  unfold tryG
  rw [h]
set_option maxHeartbeats 16000000 in
set_option maxRecDepth 100000 in
theorem try_calls (g b : Nat) (key : ByteArray) (A : Option Addr) (cap : Nat) (ops : List Opn) (m : Nat) (IH : FromAt g b key A cap ops m) (hOk : ∀ o ∈ ops, OpOk o) (hl : ops.length ≤ 10)
    (i d : Nat) (e : En) (o : Opn) (w : World) (n : Nat) (hx : ops[i]? = some o) (hbit : d.testBit i = false) (hm : cnt ops.length d = m + 1) (hd : d < 1024) (he : EnOk e) (hS : Se w g b n key A cap ops) (hn : n + 2 * gain m ≤ 4611686018427387904) :
    Calls Tryd.prog 65 #[.pointer (some ⟨g, 0, none⟩), .int .i64 (i : Int), .int .i64 (d : Int), .agg e.c] w fun e_ w' => e_ = .returned (.bool (tryG (fromB key ops m) key ops i d e)) ∧ Se w' g b (n + 2 * gain m) key A cap ops ∧ Mod (fun q => q = b) w w' := by
  have hi : i < ops.length := (List.getElem?_eq_some_iff.1 hx).1
  have hi10 : (i : Int) < 10 := by omega
  have hd1 : (d : Int) < 1024 := by omega
  have hiN1 : (i : Int) < (ops.length : Int) := by omega
  have hlN : (ops.length : Int) ≤ 10 := by omega
  obtain ⟨q, off, rfl, hr⟩ := hS.sq.arg.at_ op_len i o hx
  have c1 : ∀ o_, (w.alloc o_).cell? ⟨g, 1, none⟩ = some (.slice (some ⟨q, off, none⟩) ops.length cap) := fun o_ => blk_cell (blk_alloc hS.sq.blk o_) 1
  have hcnt := cnt_or d i hbit ops.length
  rw [if_pos hi] at hcnt
  obtain ⟨D, hDD⟩ : ∃ D, D = d ||| 1 <<< i := ⟨_, rfl⟩
  have hor := or_at d hd i (by omega)
  rw [← hDD] at hor
  have HDD := Aside0.mk hDD
  have HR := Aside0.mk (show ∀ o_, (w.alloc o_).rangeAt q (off + i * 20) o.c from fun o_ j u hu => pw_cell_below (below_alloc (Below.refl _ _) o_) (hr j u hu))
  have HOP := Aside0.mk (op_one o (hS.sq.kvs o (List.mem_of_getElem? hx)))
  have HO := Aside0.mk (hOk o (List.mem_of_getElem? hx))
  have HM := Aside0.mk (show cnt ops.length D = m by rw [hDD]; omega)
  have HD := Aside0.mk (show D < 1024 by rw [hDD]; exact or_lt d hd i (by omega))
  have HS := Aside0.mk hS
  have HE := Aside0.mk he
  have HX := Aside0.mk hx
  have s1 : ∀ o_, (w.alloc o_).heap.size = w.heap.size + 1 := fun o_ => by simp
  have HS1 := Aside0.mk s1
  have HN := Aside0.mk hn
  have HMem := Aside0.mk (List.mem_of_getElem? hx)
  have HKV := Aside0.mk (hS.sq.kvs o (List.mem_of_getElem? hx))
  obtain ⟨E1, hE1⟩ : ∃ E1, E1 = (doesA key o e).1 := ⟨_, rfl⟩
  obtain ⟨E2, hE2⟩ : ∃ E2, E2 = (doesA key o e).2 := ⟨_, rfl⟩
  have HE1 := Aside0.mk hE1
  have HE2 := Aside0.mk hE2
  clear hbit hm hd he hS hn hx hcnt hr hOk hi s1 hDD hE1 hE2
  simp only [En.c]
  go_enter Tryd.func65, Tryd.ntmps65
  go_upto_region 4 with (first | (refine gate_ (.load 97 (.tmp 19)) rfl ?_; refine ev_load_mid (.load 97 (.tmp 19)) rfl rfl 97 (.tmp 19) rfl q (off + i * 20) ?x1 o.c _ (HR.out _) Tryd.underlying97 rfl ?x3 ?_; (case x1 => rfl); (case x3 => kernel_rfl)) | (refine gate_ (.store 97 (.tmp 9) (.tmp 20)) rfl ?_; refine ev_store_row (.store 97 (.tmp 9) (.tmp 20)) rfl rfl rfl 97 (.tmp 9) (.tmp 20) rfl (w.heap.size + 1) o.c.toArray rfl rfl 97 Z97 ?y0 ?y1 rfl HOP.out ?_; (case y0 => rw [← HS1.out]; exact blk_new _ _); (case y1 => kernel_rfl); intro w_1 hw1 hm1; have HB1 := Aside0.mk (show Below w.heap.size w w_1 from hm1.after (below_alloc (below_alloc (Below.refl _ _) _) _) (by simp; omega) (fun q_ hq_ => by omega)); have K9 := Aside0.mk hw1; have K7 := Aside0.mk (hm1.blk (blk_alloc (blk_new w (.cells e.c 104)) _) (by omega)); have HS1b := Aside0.mk (HS.out.below HB1.out); clear hw1 hm1) | (refine gate_ (.load 97 (.tmp 9)) rfl ?_; refine ev_load_row (.load 97 (.tmp 9)) rfl rfl 97 (.tmp 9) rfl (w.heap.size + 1) rfl 97 o.c.toArray _ K9.out Tryd.underlying97 rfl (by kernel_rfl) ?_) | (refine gate_ (.load 104 (.tmp 7)) rfl ?_; refine ev_load_row (.load 104 (.tmp 7)) rfl rfl 104 (.tmp 7) rfl w.heap.size rfl 104 e.c _ K7.out Tryd.underlying104 rfl (by kernel_rfl) ?_) | (go_at_call 76; (refine (does_calls g key o e _ (blk_cell (HS1b.out.sq.blk) 0) HKV.out (HS1b.out.sq.vals o HMem.out) HO.out.verb (fine_of key HO.out HE.out) HS1b.out.pow).mono ?_); rintro e_1 w_2 ⟨rfl, hb⟩; rw [← HE1.out, ← HE2.out]; have HS2 := Aside0.mk (HS1b.out.below hb); have K9n := Aside0.mk ((hb.block _ (blk_lt K9.out)).trans K9.out); have K7n := Aside0.mk ((hb.block _ (blk_lt K7.out)).trans K7.out); have HB2 := Aside0.mk (below_step HB1.out hb); clear K9; have K9 := K9n; clear K9n; clear K7; have K7 := K7n; clear K7n hb) | (refine gate_ (.store 104 (.tmp 11) (.tmp 31)) rfl ?_; refine ev_store_row (.store 104 (.tmp 11) (.tmp 31)) rfl rfl rfl 104 (.tmp 11) (.tmp 31) rfl w_2.heap.size E1.c rfl rfl 104 z104.c (blk_new _ _) ?y1 rfl (en_one _) ?_; (case y1 => kernel_rfl); intro w_3 hw3 hm3; have hb := fresh_blk hm3; have HS3 := Aside0.mk (HS2.out.below hb); have K9n := Aside0.mk ((hb.block _ (blk_lt K9.out)).trans K9.out); have K7n := Aside0.mk ((hb.block _ (blk_lt K7.out)).trans K7.out); have HB3 := Aside0.mk (below_step HB2.out hb); have K11 := Aside0.mk hw3; clear K9; have K9 := K9n; clear K9n; clear K7; have K7 := K7n; clear K7n hb hw3 hm3))
  have k110 : w_3.cell? ⟨w_2.heap.size, 0, none⟩ = some (.bool E1.there) := blk_cell K11.out 0
  have k111 : w_3.cell? ⟨w_2.heap.size, 1, none⟩ = some (.int .i64 E1.fl) := blk_cell K11.out 1
  have k112 : w_3.cell? ⟨w_2.heap.size, 2, none⟩ = some (.string E1.val) := blk_cell K11.out 2
  have t1 : w_3.cell? ⟨w.heap.size + 1, 1, none⟩ = some (.int .i64 o.ti) := blk_cell K9.out 1
  have t11 : w_3.cell? ⟨w.heap.size + 1, 11, none⟩ = some (.int .i64 o.a.kind) := blk_cell K9.out 11
  have HN1 := Aside0.mk (show n + gain m ≤ 4611686018427387904 by have := HN.out; omega)
  have HN2 := Aside0.mk (show n + gain m + gain m ≤ 4611686018427387904 by have := HN.out; omega)
  have HLT := Aside0.mk (show b < w.heap.size from HS.out.ts.lt)
  have HEk := Aside0.mk (show EnOk E1 by rw [HE1.out]; exact does_ok key HO.out HE.out)
  obtain ⟨R1, hR1⟩ : ∃ R1, R1 = fromB key ops m D E1 := ⟨_, rfl⟩
  obtain ⟨R2, hR2⟩ : ∃ R2, R2 = fromB key ops m D e := ⟨_, rfl⟩
  have HR1 := Aside0.mk hR1
  have HR2 := Aside0.mk hR2
  clear hR1 hR2
  by_cases h0 : 0 ≤ o.ti
  · have d0 : decide (0 ≤ o.ti) = true := decide_eq_true h0
    have d1 : decide (o.ti < 0) = false := decide_eq_false (by omega)
    clear h0
    cases h14 : (o.a.kind == 14)
    · cases E2
      · have HV := Aside0.mk (show tryG (fromB key ops m) key ops i d e = false by rw [tryG_eq HX.out, ← HE1.out, ← HE2.out, ← HDD.out, ← HR1.out, ← HR2.out, d0, d1, h14]; simp)
        clear t11
        have t11 : w_3.cell? ⟨w.heap.size + 1, 11, none⟩ = some (.int .i64 o.a.kind) := blk_cell K9.out 11
        go_wp2
        go_ret
        exact ⟨by rw [HV.out]; rfl, HS3.out.mono (by omega), (Mod.of_below HB3.out (fun q_ => q_ = b))⟩
      · cases R1
        · have HV := Aside0.mk (show tryG (fromB key ops m) key ops i d e = false by rw [tryG_eq HX.out, ← HE1.out, ← HE2.out, ← HDD.out, ← HR1.out, ← HR2.out, d0, d1, h14]; simp)
          go_wp2_with (go_at_call 46; (refine (IH D E1 _ n HM.out HD.out HEk.out HS3.out HN1.out).mono ?_); rintro e_1 w_4 ⟨rfl, hs4, hm4⟩; rw [← HR1.out]; have HS4 := Aside0.mk hs4; have HM4 := Aside0.mk hm4; clear hs4 hm4)
          go_ret
          exact ⟨by rw [HV.out]; rfl, HS4.out.mono (by omega), ((Mod.of_below HB3.out (fun q_ => q_ = b)).trans HM4.out (fun q_ hq => .inl hq))⟩
        · have HV := Aside0.mk (show tryG (fromB key ops m) key ops i d e = true by rw [tryG_eq HX.out, ← HE1.out, ← HE2.out, ← HDD.out, ← HR1.out, ← HR2.out, d0, d1, h14]; simp)
          go_wp2_with (go_at_call 46; (refine (IH D E1 _ n HM.out HD.out HEk.out HS3.out HN1.out).mono ?_); rintro e_1 w_4 ⟨rfl, hs4, hm4⟩; rw [← HR1.out]; have HS4 := Aside0.mk hs4; have HM4 := Aside0.mk hm4; clear hs4 hm4)
          go_ret
          exact ⟨by rw [HV.out]; rfl, HS4.out.mono (by omega), ((Mod.of_below HB3.out (fun q_ => q_ = b)).trans HM4.out (fun q_ hq => .inl hq))⟩
    · cases R1
      · cases R2
        · cases E2
          · have HV := Aside0.mk (show tryG (fromB key ops m) key ops i d e = false by rw [tryG_eq HX.out, ← HE1.out, ← HE2.out, ← HDD.out, ← HR1.out, ← HR2.out, d0, d1, h14]; simp)
            go_wp2_with fail
            go_at_call 46
            refine (IH D E1 _ n HM.out HD.out HEk.out HS3.out HN1.out).mono ?_
            rintro e_1 w_4 ⟨rfl, hs4, hm4⟩
            rw [← HR1.out]
            have K74 := Aside0.mk (hm4.blk K7.out (by have := HLT.out; omega))
            have HS4 := Aside0.mk hs4
            have HM4 := Aside0.mk hm4
            clear hs4 hm4
            have k70 : w_4.cell? ⟨w.heap.size, 0, none⟩ = some (.bool e.there) := blk_cell K74.out 0
            have k71 : w_4.cell? ⟨w.heap.size, 1, none⟩ = some (.int .i64 e.fl) := blk_cell K74.out 1
            have k72 : w_4.cell? ⟨w.heap.size, 2, none⟩ = some (.string e.val) := blk_cell K74.out 2
            go_wp2_with (go_at_call 46; (refine (IH D e _ (n + gain m) HM.out HD.out HE.out HS4.out HN2.out).mono ?_); rintro e_1 w_5 ⟨rfl, hs5, hm5⟩; rw [← HR2.out]; have HS5 := Aside0.mk hs5; have HM5 := Aside0.mk hm5; clear hs5 hm5)
            go_ret
            exact ⟨by rw [HV.out]; rfl, HS5.out.mono (by omega), (((Mod.of_below HB3.out (fun q_ => q_ = b)).trans HM4.out (fun q_ hq => .inl hq)).trans HM5.out (fun q_ hq => .inl hq))⟩
          · have HV := Aside0.mk (show tryG (fromB key ops m) key ops i d e = false by rw [tryG_eq HX.out, ← HE1.out, ← HE2.out, ← HDD.out, ← HR1.out, ← HR2.out, d0, d1, h14]; simp)
            go_wp2_with fail
            go_at_call 46
            refine (IH D E1 _ n HM.out HD.out HEk.out HS3.out HN1.out).mono ?_
            rintro e_1 w_4 ⟨rfl, hs4, hm4⟩
            rw [← HR1.out]
            have K74 := Aside0.mk (hm4.blk K7.out (by have := HLT.out; omega))
            have HS4 := Aside0.mk hs4
            have HM4 := Aside0.mk hm4
            clear hs4 hm4
            have k70 : w_4.cell? ⟨w.heap.size, 0, none⟩ = some (.bool e.there) := blk_cell K74.out 0
            have k71 : w_4.cell? ⟨w.heap.size, 1, none⟩ = some (.int .i64 e.fl) := blk_cell K74.out 1
            have k72 : w_4.cell? ⟨w.heap.size, 2, none⟩ = some (.string e.val) := blk_cell K74.out 2
            go_wp2_with (go_at_call 46; (refine (IH D e _ (n + gain m) HM.out HD.out HE.out HS4.out HN2.out).mono ?_); rintro e_1 w_5 ⟨rfl, hs5, hm5⟩; rw [← HR2.out]; have HS5 := Aside0.mk hs5; have HM5 := Aside0.mk hm5; clear hs5 hm5)
            go_ret
            exact ⟨by rw [HV.out]; rfl, HS5.out.mono (by omega), (((Mod.of_below HB3.out (fun q_ => q_ = b)).trans HM4.out (fun q_ hq => .inl hq)).trans HM5.out (fun q_ hq => .inl hq))⟩
        · cases E2
          · have HV := Aside0.mk (show tryG (fromB key ops m) key ops i d e = true by rw [tryG_eq HX.out, ← HE1.out, ← HE2.out, ← HDD.out, ← HR1.out, ← HR2.out, d0, d1, h14]; simp)
            go_wp2_with fail
            go_at_call 46
            refine (IH D E1 _ n HM.out HD.out HEk.out HS3.out HN1.out).mono ?_
            rintro e_1 w_4 ⟨rfl, hs4, hm4⟩
            rw [← HR1.out]
            have K74 := Aside0.mk (hm4.blk K7.out (by have := HLT.out; omega))
            have HS4 := Aside0.mk hs4
            have HM4 := Aside0.mk hm4
            clear hs4 hm4
            have k70 : w_4.cell? ⟨w.heap.size, 0, none⟩ = some (.bool e.there) := blk_cell K74.out 0
            have k71 : w_4.cell? ⟨w.heap.size, 1, none⟩ = some (.int .i64 e.fl) := blk_cell K74.out 1
            have k72 : w_4.cell? ⟨w.heap.size, 2, none⟩ = some (.string e.val) := blk_cell K74.out 2
            go_wp2_with (go_at_call 46; (refine (IH D e _ (n + gain m) HM.out HD.out HE.out HS4.out HN2.out).mono ?_); rintro e_1 w_5 ⟨rfl, hs5, hm5⟩; rw [← HR2.out]; have HS5 := Aside0.mk hs5; have HM5 := Aside0.mk hm5; clear hs5 hm5)
            go_ret
            exact ⟨by rw [HV.out]; rfl, HS5.out.mono (by omega), (((Mod.of_below HB3.out (fun q_ => q_ = b)).trans HM4.out (fun q_ hq => .inl hq)).trans HM5.out (fun q_ hq => .inl hq))⟩
          · have HV := Aside0.mk (show tryG (fromB key ops m) key ops i d e = true by rw [tryG_eq HX.out, ← HE1.out, ← HE2.out, ← HDD.out, ← HR1.out, ← HR2.out, d0, d1, h14]; simp)
            go_wp2_with fail
            go_at_call 46
            refine (IH D E1 _ n HM.out HD.out HEk.out HS3.out HN1.out).mono ?_
            rintro e_1 w_4 ⟨rfl, hs4, hm4⟩
            rw [← HR1.out]
            have K74 := Aside0.mk (hm4.blk K7.out (by have := HLT.out; omega))
            have HS4 := Aside0.mk hs4
            have HM4 := Aside0.mk hm4
            clear hs4 hm4
            have k70 : w_4.cell? ⟨w.heap.size, 0, none⟩ = some (.bool e.there) := blk_cell K74.out 0
            have k71 : w_4.cell? ⟨w.heap.size, 1, none⟩ = some (.int .i64 e.fl) := blk_cell K74.out 1
            have k72 : w_4.cell? ⟨w.heap.size, 2, none⟩ = some (.string e.val) := blk_cell K74.out 2
            go_wp2_with (go_at_call 46; (refine (IH D e _ (n + gain m) HM.out HD.out HE.out HS4.out HN2.out).mono ?_); rintro e_1 w_5 ⟨rfl, hs5, hm5⟩; rw [← HR2.out]; have HS5 := Aside0.mk hs5; have HM5 := Aside0.mk hm5; clear hs5 hm5)
            go_ret
            exact ⟨by rw [HV.out]; rfl, HS5.out.mono (by omega), (((Mod.of_below HB3.out (fun q_ => q_ = b)).trans HM4.out (fun q_ hq => .inl hq)).trans HM5.out (fun q_ hq => .inl hq))⟩
      · cases E2
        · have HV := Aside0.mk (show tryG (fromB key ops m) key ops i d e = true by rw [tryG_eq HX.out, ← HE1.out, ← HE2.out, ← HDD.out, ← HR1.out, ← HR2.out, d0, d1, h14]; simp)
          go_wp2_with (go_at_call 46; (refine (IH D E1 _ n HM.out HD.out HEk.out HS3.out HN1.out).mono ?_); rintro e_1 w_4 ⟨rfl, hs4, hm4⟩; rw [← HR1.out]; have HS4 := Aside0.mk hs4; have HM4 := Aside0.mk hm4; clear hs4 hm4)
          go_ret
          exact ⟨by rw [HV.out]; rfl, HS4.out.mono (by omega), ((Mod.of_below HB3.out (fun q_ => q_ = b)).trans HM4.out (fun q_ hq => .inl hq))⟩
        · have HV := Aside0.mk (show tryG (fromB key ops m) key ops i d e = true by rw [tryG_eq HX.out, ← HE1.out, ← HE2.out, ← HDD.out, ← HR1.out, ← HR2.out, d0, d1, h14]; simp)
          go_wp2_with (go_at_call 46; (refine (IH D E1 _ n HM.out HD.out HEk.out HS3.out HN1.out).mono ?_); rintro e_1 w_4 ⟨rfl, hs4, hm4⟩; rw [← HR1.out]; have HS4 := Aside0.mk hs4; have HM4 := Aside0.mk hm4; clear hs4 hm4)
          go_ret
          exact ⟨by rw [HV.out]; rfl, HS4.out.mono (by omega), ((Mod.of_below HB3.out (fun q_ => q_ = b)).trans HM4.out (fun q_ hq => .inl hq))⟩
  · have d0 : decide (0 ≤ o.ti) = false := decide_eq_false h0
    have d1 : decide (o.ti < 0) = true := decide_eq_true (by omega)
    clear h0
    cases E2
    · cases R1
      · have HV := Aside0.mk (show tryG (fromB key ops m) key ops i d e = false by rw [tryG_eq HX.out, ← HE1.out, ← HE2.out, ← HDD.out, ← HR1.out, ← HR2.out, d0, d1]; simp)
        go_wp2_with (go_at_call 46; (refine (IH D E1 _ n HM.out HD.out HEk.out HS3.out HN1.out).mono ?_); rintro e_1 w_4 ⟨rfl, hs4, hm4⟩; rw [← HR1.out]; have HS4 := Aside0.mk hs4; have HM4 := Aside0.mk hm4; clear hs4 hm4)
        go_ret
        exact ⟨by rw [HV.out]; rfl, HS4.out.mono (by omega), ((Mod.of_below HB3.out (fun q_ => q_ = b)).trans HM4.out (fun q_ hq => .inl hq))⟩
      · have HV := Aside0.mk (show tryG (fromB key ops m) key ops i d e = true by rw [tryG_eq HX.out, ← HE1.out, ← HE2.out, ← HDD.out, ← HR1.out, ← HR2.out, d0, d1]; simp)
        go_wp2_with (go_at_call 46; (refine (IH D E1 _ n HM.out HD.out HEk.out HS3.out HN1.out).mono ?_); rintro e_1 w_4 ⟨rfl, hs4, hm4⟩; rw [← HR1.out]; have HS4 := Aside0.mk hs4; have HM4 := Aside0.mk hm4; clear hs4 hm4)
        go_ret
        exact ⟨by rw [HV.out]; rfl, HS4.out.mono (by omega), ((Mod.of_below HB3.out (fun q_ => q_ = b)).trans HM4.out (fun q_ hq => .inl hq))⟩
    · cases R1
      · have HV := Aside0.mk (show tryG (fromB key ops m) key ops i d e = false by rw [tryG_eq HX.out, ← HE1.out, ← HE2.out, ← HDD.out, ← HR1.out, ← HR2.out, d0, d1]; simp)
        go_wp2_with (go_at_call 46; (refine (IH D E1 _ n HM.out HD.out HEk.out HS3.out HN1.out).mono ?_); rintro e_1 w_4 ⟨rfl, hs4, hm4⟩; rw [← HR1.out]; have HS4 := Aside0.mk hs4; have HM4 := Aside0.mk hm4; clear hs4 hm4)
        go_ret
        exact ⟨by rw [HV.out]; rfl, HS4.out.mono (by omega), ((Mod.of_below HB3.out (fun q_ => q_ = b)).trans HM4.out (fun q_ hq => .inl hq))⟩
      · have HV := Aside0.mk (show tryG (fromB key ops m) key ops i d e = true by rw [tryG_eq HX.out, ← HE1.out, ← HE2.out, ← HDD.out, ← HR1.out, ← HR2.out, d0, d1]; simp)
        go_wp2_with (go_at_call 46; (refine (IH D E1 _ n HM.out HD.out HEk.out HS3.out HN1.out).mono ?_); rintro e_1 w_4 ⟨rfl, hs4, hm4⟩; rw [← HR1.out]; have HS4 := Aside0.mk hs4; have HM4 := Aside0.mk hm4; clear hs4 hm4)
        go_ret
        exact ⟨by rw [HV.out]; rfl, HS4.out.mono (by omega), ((Mod.of_below HB3.out (fun q_ => q_ = b)).trans HM4.out (fun q_ hq => .inl hq))⟩
end Go.Proofs.YtepklobkppdliaaDoor.Hs
