/- The model: Apply of get and gets. The model: Apply of flush; of a request that has not one key. The model: a request of one key, as a whole. -/
import Derived.Test.YtepklobkppdliaaDoorUAe
import Derived.Deep.LoopGhost
import Derived.Test.YtepklobkppdliaaDoorUAd
section
namespace Go.Proofs.YtepklobkppdliaaDoor.Md
open Go.RowKit Go.Proofs.YtepklobkppdliaaDoorW.PrintWords Go.Proofs.YtepklobkppdliaaDoorW.PrintLast Go.Proofs.YtepklobkppdliaaDoorW.PrintMore Go.Proofs.YtepklobkppdliaaDoor.Lib Go.Proofs.YtepklobkppdliaaDoor.Open
theorem own_mono {W : World} {B B' n s : Nat} {e : TypeId} {v : Value} {xs : List Value} (h : W.ownsRow B e s v n xs) (hB : B' ≤ B) : W.ownsRow B' e s v n xs :=
  ⟨h.1, h.2.imp id (fun ⟨g, cap, cur, e1, hg, r⟩ => ⟨g, cap, cur, e1, Nat.le_trans hB hg, r⟩)⟩
def fcl (e : Ent) : List Value := [.string e.key, .int .i64 e.fl, .string e.val, .int .i64 e.cas]
theorem fcl_len (e : Ent) : (fcl e).length = 4 := rfl
theorem fcl_one (e : Ent) : ∀ u ∈ fcl e, u.oneCell' = true := by simp [fcl, Value.oneCell']
theorem info35 : (Tryd.prog.info? 35).map (fun i => (i.zero, i.size, i.bytes)) = some (some (.agg #[.string ⟨#[]⟩, .int .i64 0, .string ⟨#[]⟩, .int .i64 0]), 4, 48) := by kernel_rfl
/-- An answer with values. -/
def ansV (v : Value) (gets : Bool) : Array Value := #[.int .i64 1, v, .bool gets, .int .u64 0, .string ⟨#[]⟩, .int .i64 0, .int .i64 0, .int .i64 0, .int .i64 0]
theorem ansV_one (v : Value) (hv : v.oneCell' = true) (gets : Bool) : (ansV v gets).all (·.oneCell') = true := by
  unfold Value.oneCell' at hv
  simp [ansV, Value.oneCell', hv]
/-- What is told of keys. -/
def founds (f : ByteArray → Option Ent) (ks : List ByteArray) (now : Int) : List Ent := ks.filterMap (fun k => liveOf f k now)
theorem founds_le (f : ByteArray → Option Ent) (ks : List ByteArray) (now : Int) : (founds f ks now).length ≤ ks.length := List.length_filterMap_le _ _
theorem founds_none {f : ByteArray → Option Ent} {ks : List ByteArray} {now : Int} {i : Nat} {k : ByteArray} (hk : ks[i]? = some k) (h : liveOf f k now = none) : founds f (ks.take (i + 1)) now = founds f (ks.take i) now := by
  unfold founds
  rw [List.take_add_one, hk, Option.toList_some, List.filterMap_append]
  simp [h]
theorem founds_some {f : ByteArray → Option Ent} {ks : List ByteArray} {now : Int} {i : Nat} {k : ByteArray} {e : Ent} (hk : ks[i]? = some k) (h : liveOf f k now = some e) : founds f (ks.take (i + 1)) now = founds f (ks.take i) now ++ [e] := by
  unfold founds
  rw [List.take_add_one, hk, Option.toList_some, List.filterMap_append]
  simp [h]
/-- Keys that can be read. -/
def Ks (w : World) (A : Option Addr) (ks : List ByteArray) : Prop := (ks ≠ [] → ∃ ad, A = some ad ∧ ∀ i k, ks[i]? = some k → w.cell? (ad.add i) = some (.string k)) ∧ ∀ k ∈ ks, k.size ≤ maxLen
theorem Ks.below {w W : World} {A : Option Addr} {ks : List ByteArray} (h : Ks w A ks) (hb : Below w.heap.size w W) : Ks W A ks :=
  ⟨fun hne => by
    obtain ⟨ad, e, hc⟩ := h.1 hne
    exact ⟨ad, e, fun i k hi => pw_cell_below hb (hc i k hi)⟩, h.2⟩
/-- The loop: i keys were asked. -/
def GetAt (w0 : World) (f : ByteArray → Option Ent) (r : Rq) (A : Option Addr) (cap : Nat) (ks : List ByteArray) (now : Int) (gets : Bool) (R : Nat) (s : Value) (wr : World) : Prop :=
  ∃ (i : Nat) (v : Value), i + R = ks.length ∧ s = .int .i64 (i : Int) ∧ wr.ownsRow (w0.heap.size + 3) 35 4 v (founds f (ks.take i) now).length ((founds f (ks.take i) now).flatMap fcl) ∧ wr.heap[w0.heap.size + 1 + 1]? = some (.cells (ansV v gets) 32 (0, 0)) ∧
    wr.heap[w0.heap.size]? = some (.cells (r.c (.slice A ks.length cap)) 27 (0, 0)) ∧ wr.heap[w0.heap.size + 1]? = some (.cells A0 32 (0, 0)) ∧ Below w0.heap.size w0 wr ∧ w0.heap.size + 3 ≤ wr.heap.size

set_option maxHeartbeats 8000000 in
set_option maxRecDepth 100000 in
theorem apply_get1 (g b n : Nat) (f : ByteArray → Option Ent) (r : Rq) (A : Option Addr) (cap : Nat) (ks : List ByteArray) (now ver : Int) (w : World) (h : Md w g b n f) (hks : Ks w A ks) (hl : ks.length ≤ 1000000) (hv : r.verb = 1) :
    Calls Tryd.prog 16 #[.pointer (some ⟨g, 0, none⟩), .agg (r.c (.slice A ks.length cap)), .int .i64 now, .int .i64 ver] w fun e w' => ∃ v, e = .returned (.agg (ansV v false)) ∧ w'.ownsRow w.heap.size 35 4 v (founds f ks now).length ((founds f ks now).flatMap fcl) ∧ Below w.heap.size w w' := by
  have e1 : (r.verb == 1) = true := by rw [hv]; rfl
  have e2 : (r.verb == 2) = false := by rw [hv]; rfl
  have HM := Aside0.mk h
  have HK := Aside0.mk hks
  have HLn := Aside0.mk hl
  obtain ⟨N, hN⟩ : ∃ N, N = ks.length := ⟨_, rfl⟩
  have HN := Aside0.mk hN
  have hl' : N ≤ 1000000 := by omega
  rw [← hN]
  clear h hks hl hv hN
  simp only [Rq.c]
  go_enter Tryd.func16, Tryd.ntmps16
  go_wp2
  go_loopg [33] N (fun R s wr => GetAt w f r A cap ks now false R s wr)
  case atStart =>
    rw [HN.out]
    have s1 : (w.alloc (.cells (r.c (.slice A ks.length cap)) 27)).heap.size = w.heap.size + 1 := by simp
    have s2 : ((w.alloc (.cells (r.c (.slice A ks.length cap)) 27)).alloc (.cells A0 32)).heap.size = w.heap.size + 1 + 1 := by simp
    refine ⟨0, .slice none 0 0, by omega, rfl, own_nil _ _ _ _, ?_, ?_, ?_, ?_, by simp⟩
    · show (((w.alloc (.cells (r.c (.slice A ks.length cap)) 27)).alloc (.cells A0 32)).alloc (.cells (ansV (.slice none 0 0) false) 32)).heap[w.heap.size + 1 + 1]? = _
      rw [← s2]
      exact blk_new _ _
    · exact blk_alloc (blk_alloc (blk_new w (.cells (r.c (.slice A ks.length cap)) 27)) (.cells A0 32)) _
    · show (((w.alloc (.cells (r.c (.slice A ks.length cap)) 27)).alloc (.cells A0 32)).alloc (.cells (ansV (.slice none 0 0) false) 32)).heap[w.heap.size + 1]? = _
      rw [← s1]
      exact blk_alloc (blk_new _ _) _
    · exact below_alloc (below_alloc (below_alloc (Below.refl _ _) _) _) _
  case round =>
    obtain ⟨i, v, hi, rfl, ho, b9, b5, b8, hB, hsz⟩ := hrel
    obtain ⟨Av, cv, rfl⟩ := own_slice ho
    have HO := Aside0.mk ho
    have B9 := Aside0.mk b9
    have B5 := Aside0.mk b5
    have B8 := Aside0.mk b8
    have HB := Aside0.mk hB
    have HS := Aside0.mk hsz
    clear ho b9 b5 b8 hB hsz
    by_cases hlt : i < N
    · obtain ⟨k, hk⟩ : ∃ k, ks[i]? = some k := ⟨_, List.getElem?_eq_getElem (by have := HN.out; omega)⟩
      obtain ⟨ad, rfl, hc⟩ := HK.out.1 (fun e => by rw [e] at hk; cases hk)
      have ck : wr.cell? (ad.add i) = some (.string k) := pw_cell_below HB.out (hc i k hk)
      have HKK := Aside0.mk hk
      have HKS := Aside0.mk (HK.out.2 k (List.mem_of_getElem? hk))
      have r1 : decide ((i : Int) < (N : Int)) = true := decide_eq_true (by omega)
      have HI := Aside0.mk hi
      have HMr := Aside0.mk (HM.out.below HB.out)
      clear hc hk hi
      cases hlv : liveOf f k now with
      | none =>
        have HLV := Aside0.mk hlv
        clear hlv
        go_wp2_with (go_at_call 35; (refine (living_calls g b n f k now _ HMr.out HKS.out).mono ?_); rintro e_1 w_1 ⟨rfl, hb⟩; have HB1 := Aside0.mk hb; clear hb; rw [HLV.out]; simp only [Option.getD_none, Option.isSome_none, keyEnt, Ent.c])
        have hb2 : ∀ o, Below wr.heap.size wr (w_1.alloc o) := fun o => below_step HB1.out (below_alloc (Below.refl _ _) o)
        go_roundg (N - (i + 1))
        case measure => have := HI.out; have := HN.out; omega
        case rel => exact ⟨i + 1, .slice Av (founds f (ks.take i) now).length cv, by have := HN.out; omega, by go_num, by rw [founds_none HKK.out HLV.out]; exact pw_own_below HO.out (hb2 _), ((hb2 _).block _ (blk_lt B9.out)).trans B9.out, ((hb2 _).block _ (blk_lt B5.out)).trans B5.out, ((hb2 _).block _ (blk_lt B8.out)).trans B8.out, HB.out.trans ((hb2 _).mono HB.out.size), Nat.le_trans HS.out (hb2 _).size⟩
      | some E =>
        have HLV := Aside0.mk hlv
        clear hlv
        have LE := Aside0.mk (show (founds f (ks.take i) now).length ≤ 1000000 from Nat.le_trans (founds_le _ _ _) (Nat.le_trans (List.length_take_le _ _) (by have := HN.out; omega)))
        go_wp2_with (first | (go_at_call 35; (refine (living_calls g b n f k now _ HMr.out HKS.out).mono ?_); rintro e_1 w_1 ⟨rfl, hb⟩; rw [HLV.out]; simp only [Option.getD_some, Option.isSome_some, Ent.c]; have hb9 := (hb.block _ (blk_lt B9.out)).trans B9.out; have c91 : ∀ o, (w_1.alloc o).cell? ⟨w.heap.size + 1 + 1, 1, none⟩ = some (.slice Av (founds f (ks.take i) now).length cv) := fun o => blk_cell (blk_alloc hb9 o) 1; have B9n := Aside0.mk hb9; have B5n := Aside0.mk ((hb.block _ (blk_lt B5.out)).trans B5.out); have B8n := Aside0.mk ((hb.block _ (blk_lt B8.out)).trans B8.out); have HOn := Aside0.mk (pw_own_below HO.out hb); have HBn := Aside0.mk (HB.out.trans (hb.mono HB.out.size)); have HSn := Aside0.mk (Nat.le_trans HS.out hb.size); have HZ := Aside0.mk (show ∀ o, (w_1.alloc o).heap.size = w_1.heap.size + 1 from fun o => by simp); clear hb hb9 B9 B5 B8 HO HB HS; have B9 := B9n; have B5 := B5n; have B8 := B8n; have HO := HOn; have HB := HBn; have HS := HSn; clear B9n B5n B8n HOn HBn HSn) | (refine gate_ (.call { callee := .builtin .append, args := #[.tmp 46, .tmp 56], argTypes := #[29, 29] }) rfl ?_; refine ev_append (.tmp 46) (.tmp 56) 29 35 rfl rfl (w.heap.size + 3) _ 4 48 Tryd.underlying29 info35 rfl (by decide) (.slice Av (founds f (ks.take i) now).length cv) (founds f (ks.take i) now).length ((founds f (ks.take i) now).flatMap fcl) rfl (own_alloc (own_alloc HO.out (.cells E.c 38)) (.cells (fcl E).toArray 35)) ⟨w_1.heap.size + 1, 0, none⟩ 1 1 (fcl E) rfl rfl (fun j u hu => by rw [add_plain, ← HZ.out (.cells E.c 38)]; exact (blk_cell (blk_new (w_1.alloc (.cells E.c 38)) (.cells (fcl E).toArray 35)) _).trans (by simpa using hu)) (fcl_one E) (by unfold maxLen; have := LE.out; omega) (by have := LE.out; omega) (by simp; have := HS.out; omega) ?_; intro v1 w_3 ho1 hm1 _ _; obtain ⟨A1, c1, rfl⟩ := own_slice ho1; have hne : ¬ some (w.heap.size + 1 + 1) = (Value.slice Av (founds f (ks.take i) now).length cv).ownBlock := (fun e => by have := own_base HO.out _ e.symm; omega); have hb9 := hm1.blk (blk_alloc (blk_alloc B9.out (.cells E.c 38)) (.cells (fcl E).toArray 35)) hne; have d1 : w_3.cell? ⟨w.heap.size + 1 + 1, 1, none⟩ = some (.slice Av (founds f (ks.take i) now).length cv) := blk_cell hb9 1; have f1 := blk_frozen hb9 1; have G9 := Aside0.mk hb9; have G5 := Aside0.mk (hm1.blk (blk_alloc (blk_alloc B5.out (.cells E.c 38)) (.cells (fcl E).toArray 35)) (fun e => by have := own_base HO.out _ e.symm; omega)); have G8 := Aside0.mk (hm1.blk (blk_alloc (blk_alloc B8.out (.cells E.c 38)) (.cells (fcl E).toArray 35)) (fun e => by have := own_base HO.out _ e.symm; omega)); have GO := Aside0.mk ho1; have GB := Aside0.mk (hm1.after (below_step HB.out (below_alloc (below_alloc (Below.refl _ _) (.cells E.c 38)) (.cells (fcl E).toArray 35))) (Nat.le_trans HB.out.size (by simp; omega)) (fun q hq => by have := own_base HO.out _ hq.symm; omega)); have GS := Aside0.mk (Nat.le_trans HS.out (Nat.le_trans (show w_1.heap.size ≤ ((w_1.alloc (.cells E.c 38)).alloc (.cells (fcl E).toArray 35)).heap.size by simp; omega) hm1.size)); clear ho1 hm1 hne hb9 c91))
        go_roundg (N - (i + 1))
        case measure => have := HI.out; have := HN.out; omega
        case rel =>
          have hM := Mod.setCell (p := ⟨w.heap.size + 1 + 1, 1, none⟩) (Mod.refl (fun q => q = w.heap.size + 1 + 1) w_3) (.inl rfl) (.slice A1 ((founds f (ks.take i) now).length + 1) c1)
          have hf : (founds f (ks.take (i + 1)) now).flatMap fcl = (founds f (ks.take i) now).flatMap fcl ++ fcl E := by rw [founds_some HKK.out HLV.out, List.flatMap_append]; simp
          have hlen : (founds f (ks.take (i + 1)) now).length = (founds f (ks.take i) now).length + 1 := by rw [founds_some HKK.out HLV.out]; simp
          have h3 := HS.out
          exact ⟨i + 1, .slice A1 ((founds f (ks.take i) now).length + 1) c1, by have := HI.out; have := HN.out; omega, by go_num, by rw [hf, hlen]; exact hM.own GO.out (fun q hq e => by have := own_base GO.out q hq; omega), blk_put G9.out 1 _ rfl, hM.blk G5.out (by omega), hM.blk G8.out (by omega), hM.after GB.out GB.out.size (fun q hq => by omega), Nat.le_trans GS.out hM.size⟩
    · obtain rfl : i = N := by have := HN.out; omega
      have hi' := hi
      obtain rfl : gk = 0 := by have := HN.out; omega
      have HI := Aside0.mk (show i = ks.length by omega)
      clear hi hi'
      go_wp2_with (first | (refine gate_ (.load 32 (.tmp 9)) rfl ?_; refine ev_load_row (.load 32 (.tmp 9)) rfl rfl 32 (.tmp 9) rfl (w.heap.size + 1 + 1) rfl 32 (ansV (.slice Av (founds f (ks.take i) now).length cv) false) _ B9.out Tryd.underlying32 rfl (by kernel_rfl) ?_) | (refine gate_ (.store 32 (.tmp 8) (.tmp 60)) rfl ?_; refine ev_store_row (.store 32 (.tmp 8) (.tmp 60)) rfl rfl rfl 32 (.tmp 8) (.tmp 60) rfl (w.heap.size + 1) (ansV (.slice Av (founds f (ks.take i) now).length cv) false) rfl rfl 32 A0 B8.out (by kernel_rfl) rfl (ansV_one _ rfl _) ?_; intro w_5 hw5 hm5; have HW5 := Aside0.mk hw5; have HM5 := Aside0.mk hm5; clear hw5 hm5))
      refine bodyPost_ret (results_cell_row rfl _ _ (w.heap.size + 1) 32 _ (0, 0) _ rfl HW5.out Tryd.underlying32 rfl (by kernel_rfl)) rfl ⟨_, rfl, ?_, HM5.out.after HB.out HB.out.size (fun q hq => by omega)⟩
      have ho := HO.out
      rw [List.take_of_length_le (by have := HI.out; omega)] at ho ⊢
      exact own_mono (HM5.out.own ho (fun q hq e => by have := own_base ho q hq; omega)) (by omega)

set_option maxHeartbeats 8000000 in
set_option maxRecDepth 100000 in
theorem apply_get2 (g b n : Nat) (f : ByteArray → Option Ent) (r : Rq) (A : Option Addr) (cap : Nat) (ks : List ByteArray) (now ver : Int) (w : World) (h : Md w g b n f) (hks : Ks w A ks) (hl : ks.length ≤ 1000000) (hv : r.verb = 2) :
    Calls Tryd.prog 16 #[.pointer (some ⟨g, 0, none⟩), .agg (r.c (.slice A ks.length cap)), .int .i64 now, .int .i64 ver] w fun e w' => ∃ v, e = .returned (.agg (ansV v true)) ∧ w'.ownsRow w.heap.size 35 4 v (founds f ks now).length ((founds f ks now).flatMap fcl) ∧ Below w.heap.size w w' := by
  have e1 : (r.verb == 1) = false := by rw [hv]; rfl
  have e2 : (r.verb == 2) = true := by rw [hv]; rfl
  have HM := Aside0.mk h
  have HK := Aside0.mk hks
  have HLn := Aside0.mk hl
  obtain ⟨N, hN⟩ : ∃ N, N = ks.length := ⟨_, rfl⟩
  have HN := Aside0.mk hN
  have hl' : N ≤ 1000000 := by omega
  rw [← hN]
  clear h hks hl hv hN
  simp only [Rq.c]
  go_enter Tryd.func16, Tryd.ntmps16
  go_wp2
  go_loopg [33] N (fun R s wr => GetAt w f r A cap ks now true R s wr)
  case atStart =>
    rw [HN.out]
    have s1 : (w.alloc (.cells (r.c (.slice A ks.length cap)) 27)).heap.size = w.heap.size + 1 := by simp
    have s2 : ((w.alloc (.cells (r.c (.slice A ks.length cap)) 27)).alloc (.cells A0 32)).heap.size = w.heap.size + 1 + 1 := by simp
    refine ⟨0, .slice none 0 0, by omega, rfl, own_nil _ _ _ _, ?_, ?_, ?_, ?_, by simp⟩
    · show (((w.alloc (.cells (r.c (.slice A ks.length cap)) 27)).alloc (.cells A0 32)).alloc (.cells (ansV (.slice none 0 0) true) 32)).heap[w.heap.size + 1 + 1]? = _
      rw [← s2]
      exact blk_new _ _
    · exact blk_alloc (blk_alloc (blk_new w (.cells (r.c (.slice A ks.length cap)) 27)) (.cells A0 32)) _
    · show (((w.alloc (.cells (r.c (.slice A ks.length cap)) 27)).alloc (.cells A0 32)).alloc (.cells (ansV (.slice none 0 0) true) 32)).heap[w.heap.size + 1]? = _
      rw [← s1]
      exact blk_alloc (blk_new _ _) _
    · exact below_alloc (below_alloc (below_alloc (Below.refl _ _) _) _) _
  case round =>
    obtain ⟨i, v, hi, rfl, ho, b9, b5, b8, hB, hsz⟩ := hrel
    obtain ⟨Av, cv, rfl⟩ := own_slice ho
    have HO := Aside0.mk ho
    have B9 := Aside0.mk b9
    have B5 := Aside0.mk b5
    have B8 := Aside0.mk b8
    have HB := Aside0.mk hB
    have HS := Aside0.mk hsz
    clear ho b9 b5 b8 hB hsz
    by_cases hlt : i < N
    · obtain ⟨k, hk⟩ : ∃ k, ks[i]? = some k := ⟨_, List.getElem?_eq_getElem (by have := HN.out; omega)⟩
      obtain ⟨ad, rfl, hc⟩ := HK.out.1 (fun e => by rw [e] at hk; cases hk)
      have ck : wr.cell? (ad.add i) = some (.string k) := pw_cell_below HB.out (hc i k hk)
      have HKK := Aside0.mk hk
      have HKS := Aside0.mk (HK.out.2 k (List.mem_of_getElem? hk))
      have r1 : decide ((i : Int) < (N : Int)) = true := decide_eq_true (by omega)
      have HI := Aside0.mk hi
      have HMr := Aside0.mk (HM.out.below HB.out)
      clear hc hk hi
      cases hlv : liveOf f k now with
      | none =>
        have HLV := Aside0.mk hlv
        clear hlv
        go_wp2_with (go_at_call 35; (refine (living_calls g b n f k now _ HMr.out HKS.out).mono ?_); rintro e_1 w_1 ⟨rfl, hb⟩; have HB1 := Aside0.mk hb; clear hb; rw [HLV.out]; simp only [Option.getD_none, Option.isSome_none, keyEnt, Ent.c])
        have hb2 : ∀ o, Below wr.heap.size wr (w_1.alloc o) := fun o => below_step HB1.out (below_alloc (Below.refl _ _) o)
        go_roundg (N - (i + 1))
        case measure => have := HI.out; have := HN.out; omega
        case rel => exact ⟨i + 1, .slice Av (founds f (ks.take i) now).length cv, by have := HN.out; omega, by go_num, by rw [founds_none HKK.out HLV.out]; exact pw_own_below HO.out (hb2 _), ((hb2 _).block _ (blk_lt B9.out)).trans B9.out, ((hb2 _).block _ (blk_lt B5.out)).trans B5.out, ((hb2 _).block _ (blk_lt B8.out)).trans B8.out, HB.out.trans ((hb2 _).mono HB.out.size), Nat.le_trans HS.out (hb2 _).size⟩
      | some E =>
        have HLV := Aside0.mk hlv
        clear hlv
        have LE := Aside0.mk (show (founds f (ks.take i) now).length ≤ 1000000 from Nat.le_trans (founds_le _ _ _) (Nat.le_trans (List.length_take_le _ _) (by have := HN.out; omega)))
        go_wp2_with (first | (go_at_call 35; (refine (living_calls g b n f k now _ HMr.out HKS.out).mono ?_); rintro e_1 w_1 ⟨rfl, hb⟩; rw [HLV.out]; simp only [Option.getD_some, Option.isSome_some, Ent.c]; have hb9 := (hb.block _ (blk_lt B9.out)).trans B9.out; have c91 : ∀ o, (w_1.alloc o).cell? ⟨w.heap.size + 1 + 1, 1, none⟩ = some (.slice Av (founds f (ks.take i) now).length cv) := fun o => blk_cell (blk_alloc hb9 o) 1; have B9n := Aside0.mk hb9; have B5n := Aside0.mk ((hb.block _ (blk_lt B5.out)).trans B5.out); have B8n := Aside0.mk ((hb.block _ (blk_lt B8.out)).trans B8.out); have HOn := Aside0.mk (pw_own_below HO.out hb); have HBn := Aside0.mk (HB.out.trans (hb.mono HB.out.size)); have HSn := Aside0.mk (Nat.le_trans HS.out hb.size); have HZ := Aside0.mk (show ∀ o, (w_1.alloc o).heap.size = w_1.heap.size + 1 from fun o => by simp); clear hb hb9 B9 B5 B8 HO HB HS; have B9 := B9n; have B5 := B5n; have B8 := B8n; have HO := HOn; have HB := HBn; have HS := HSn; clear B9n B5n B8n HOn HBn HSn) | (refine gate_ (.call { callee := .builtin .append, args := #[.tmp 46, .tmp 56], argTypes := #[29, 29] }) rfl ?_; refine ev_append (.tmp 46) (.tmp 56) 29 35 rfl rfl (w.heap.size + 3) _ 4 48 Tryd.underlying29 info35 rfl (by decide) (.slice Av (founds f (ks.take i) now).length cv) (founds f (ks.take i) now).length ((founds f (ks.take i) now).flatMap fcl) rfl (own_alloc (own_alloc HO.out (.cells E.c 38)) (.cells (fcl E).toArray 35)) ⟨w_1.heap.size + 1, 0, none⟩ 1 1 (fcl E) rfl rfl (fun j u hu => by rw [add_plain, ← HZ.out (.cells E.c 38)]; exact (blk_cell (blk_new (w_1.alloc (.cells E.c 38)) (.cells (fcl E).toArray 35)) _).trans (by simpa using hu)) (fcl_one E) (by unfold maxLen; have := LE.out; omega) (by have := LE.out; omega) (by simp; have := HS.out; omega) ?_; intro v1 w_3 ho1 hm1 _ _; obtain ⟨A1, c1, rfl⟩ := own_slice ho1; have hne : ¬ some (w.heap.size + 1 + 1) = (Value.slice Av (founds f (ks.take i) now).length cv).ownBlock := (fun e => by have := own_base HO.out _ e.symm; omega); have hb9 := hm1.blk (blk_alloc (blk_alloc B9.out (.cells E.c 38)) (.cells (fcl E).toArray 35)) hne; have d1 : w_3.cell? ⟨w.heap.size + 1 + 1, 1, none⟩ = some (.slice Av (founds f (ks.take i) now).length cv) := blk_cell hb9 1; have f1 := blk_frozen hb9 1; have G9 := Aside0.mk hb9; have G5 := Aside0.mk (hm1.blk (blk_alloc (blk_alloc B5.out (.cells E.c 38)) (.cells (fcl E).toArray 35)) (fun e => by have := own_base HO.out _ e.symm; omega)); have G8 := Aside0.mk (hm1.blk (blk_alloc (blk_alloc B8.out (.cells E.c 38)) (.cells (fcl E).toArray 35)) (fun e => by have := own_base HO.out _ e.symm; omega)); have GO := Aside0.mk ho1; have GB := Aside0.mk (hm1.after (below_step HB.out (below_alloc (below_alloc (Below.refl _ _) (.cells E.c 38)) (.cells (fcl E).toArray 35))) (Nat.le_trans HB.out.size (by simp; omega)) (fun q hq => by have := own_base HO.out _ hq.symm; omega)); have GS := Aside0.mk (Nat.le_trans HS.out (Nat.le_trans (show w_1.heap.size ≤ ((w_1.alloc (.cells E.c 38)).alloc (.cells (fcl E).toArray 35)).heap.size by simp; omega) hm1.size)); clear ho1 hm1 hne hb9 c91))
        go_roundg (N - (i + 1))
        case measure => have := HI.out; have := HN.out; omega
        case rel =>
          have hM := Mod.setCell (p := ⟨w.heap.size + 1 + 1, 1, none⟩) (Mod.refl (fun q => q = w.heap.size + 1 + 1) w_3) (.inl rfl) (.slice A1 ((founds f (ks.take i) now).length + 1) c1)
          have hf : (founds f (ks.take (i + 1)) now).flatMap fcl = (founds f (ks.take i) now).flatMap fcl ++ fcl E := by rw [founds_some HKK.out HLV.out, List.flatMap_append]; simp
          have hlen : (founds f (ks.take (i + 1)) now).length = (founds f (ks.take i) now).length + 1 := by rw [founds_some HKK.out HLV.out]; simp
          have h3 := HS.out
          exact ⟨i + 1, .slice A1 ((founds f (ks.take i) now).length + 1) c1, by have := HI.out; have := HN.out; omega, by go_num, by rw [hf, hlen]; exact hM.own GO.out (fun q hq e => by have := own_base GO.out q hq; omega), blk_put G9.out 1 _ rfl, hM.blk G5.out (by omega), hM.blk G8.out (by omega), hM.after GB.out GB.out.size (fun q hq => by omega), Nat.le_trans GS.out hM.size⟩
    · obtain rfl : i = N := by have := HN.out; omega
      have hi' := hi
      obtain rfl : gk = 0 := by have := HN.out; omega
      have HI := Aside0.mk (show i = ks.length by omega)
      clear hi hi'
      go_wp2_with (first | (refine gate_ (.load 32 (.tmp 9)) rfl ?_; refine ev_load_row (.load 32 (.tmp 9)) rfl rfl 32 (.tmp 9) rfl (w.heap.size + 1 + 1) rfl 32 (ansV (.slice Av (founds f (ks.take i) now).length cv) true) _ B9.out Tryd.underlying32 rfl (by kernel_rfl) ?_) | (refine gate_ (.store 32 (.tmp 8) (.tmp 60)) rfl ?_; refine ev_store_row (.store 32 (.tmp 8) (.tmp 60)) rfl rfl rfl 32 (.tmp 8) (.tmp 60) rfl (w.heap.size + 1) (ansV (.slice Av (founds f (ks.take i) now).length cv) true) rfl rfl 32 A0 B8.out (by kernel_rfl) rfl (ansV_one _ rfl _) ?_; intro w_5 hw5 hm5; have HW5 := Aside0.mk hw5; have HM5 := Aside0.mk hm5; clear hw5 hm5))
      refine bodyPost_ret (results_cell_row rfl _ _ (w.heap.size + 1) 32 _ (0, 0) _ rfl HW5.out Tryd.underlying32 rfl (by kernel_rfl)) rfl ⟨_, rfl, ?_, HM5.out.after HB.out HB.out.size (fun q hq => by omega)⟩
      have ho := HO.out
      rw [List.take_of_length_le (by have := HI.out; omega)] at ho ⊢
      exact own_mono (HM5.out.own ho (fun q hq e => by have := own_base ho q hq; omega)) (by omega)
end Go.Proofs.YtepklobkppdliaaDoor.Md
end
section
namespace Go.Proofs.YtepklobkppdliaaDoor.Md
open Go.RowKit Go.Proofs.YtepklobkppdliaaDoorW.PrintWords Go.Proofs.YtepklobkppdliaaDoorW.PrintLast Go.Proofs.YtepklobkppdliaaDoorW.PrintMore Go.Proofs.YtepklobkppdliaaDoor.Lib Go.Proofs.YtepklobkppdliaaDoor.Open
set_option maxHeartbeats 8000000 in
set_option maxRecDepth 100000 in
theorem apply_short (g : Nat) (r : Rq) (A : Option Addr) (m cap : Nat) (now ver : Int) (w : World) (hm : m ≠ 1) (hv : r.verb ≠ 1 ∧ r.verb ≠ 2 ∧ r.verb ≠ 13) :
    Calls Tryd.prog 16 #[.pointer (some ⟨g, 0, none⟩), .agg (r.c (.slice A m cap)), .int .i64 now, .int .i64 ver] w fun e w' => e = .returned (.agg (ans 0 0 ⟨#[]⟩)) ∧ Below w.heap.size w w' := by
  have e1 : (r.verb == 1) = false := beq_eq_false_iff_ne.2 hv.1
  have e2 : (r.verb == 2) = false := beq_eq_false_iff_ne.2 hv.2.1
  have e13 : (r.verb == 13) = false := beq_eq_false_iff_ne.2 hv.2.2
  have em : ((m : Int) != 1) = true := bne_iff_ne.2 (by omega)
  clear hv hm
  simp only [Rq.c]
  go_enter Tryd.func16, Tryd.ntmps16
  go_wp2
  have s1 : (w.alloc (.cells (r.c (.slice A m cap)) 27)).heap.size = w.heap.size + 1 := by simp
  refine bodyPost_ret (results_cell_row rfl _ _ (w.heap.size + 1) 32 (ans 0 0 ⟨#[]⟩) (0, 0) _ rfl ?_ Tryd.underlying32 rfl (by kernel_rfl)) rfl ⟨rfl, below_alloc (below_alloc (Below.refl _ _) _) _⟩
  rw [← s1]
  exact blk_new (w.alloc (.cells (r.c (.slice A m cap)) 27)) _
set_option maxHeartbeats 8000000 in
set_option maxRecDepth 100000 in
theorem apply_flush (g b n : Nat) (f : ByteArray → Option Ent) (r : Rq) (kv : Value) (now ver : Int) (w : World) (h : Md w g b n f) (hv : r.verb = 13) :
    Calls Tryd.prog 16 #[.pointer (some ⟨g, 0, none⟩), .agg (r.c kv), .int .i64 now, .int .i64 ver] w fun e w' => e = .returned (.agg (ans 9 0 ⟨#[]⟩)) ∧ ∃ b', Md w' g b' 0 (fun _ => none) ∧ w.heap.size ≤ b' ∧ Mod (fun q => q = g) w w' := by
  have e1 : (r.verb == 1) = false := by rw [hv]; rfl
  have e2 : (r.verb == 2) = false := by rw [hv]; rfl
  have e13 : (r.verb == 13) = true := by rw [hv]; rfl
  have hmm := @run_makeMap Tryd.prog
  have s1 : (w.alloc (.cells (r.c kv) 27)).heap.size = w.heap.size + 1 := by simp
  have s2 : ((w.alloc (.cells (r.c kv) 27)).alloc (.cells A0 32)).heap.size = w.heap.size + 1 + 1 := by simp
  have HS := Aside0.mk (And.intro s1 s2)
  clear s1 s2
  have hg := h.lt.1
  have c0 : ∀ o1 o2 o3, (((w.alloc o1).alloc o2).alloc o3).cell? ⟨g, 0, none⟩ = some (.map (some b)) := fun o1 o2 o3 => blk_cell (blk_alloc (blk_alloc (blk_alloc h.blk o1) o2) o3) 0
  have f0 : ∀ o1 o2 o3, (((w.alloc o1).alloc o2).alloc o3).frozen? ⟨g, 0, none⟩ = false := fun o1 o2 o3 => blk_frozen (blk_alloc (blk_alloc (blk_alloc h.blk o1) o2) o3) 0
  have HM := Aside0.mk h
  have HG := Aside0.mk hg
  clear h hv hg
  simp only [Rq.c]
  go_enter Tryd.func16, Tryd.ntmps16
  go_wp2_with (refine gate_ (.store 32 (.tmp 8) (.tmp 67)) rfl ?_; have hgl := HG.out; have hM3 := Mod.setCell (p := ⟨g, 0, none⟩) (Mod.refl (fun q => q = g) (((w.alloc (.cells (r.c kv) 27)).alloc (.cells A0 32)).alloc (.map #[] 0))) (.inl rfl) (.map (some (w.heap.size + 1 + 1))); have b8 := hM3.blk (show (((w.alloc (.cells (r.c kv) 27)).alloc (.cells A0 32)).alloc (.map #[] 0)).heap[w.heap.size + 1]? = some (.cells A0 32) by rw [← HS.out.1]; exact blk_alloc (blk_new _ _) _) (by omega); refine ev_store_row (.store 32 (.tmp 8) (.tmp 67)) rfl rfl rfl 32 (.tmp 8) (.tmp 67) rfl (w.heap.size + 1) (ans 9 0 ⟨#[]⟩) rfl rfl 32 A0 b8 (by kernel_rfl) rfl (ans_one _ _ _) ?_; intro w_5 hw5 hm5; have HW5 := Aside0.mk hw5; have HM5 := Aside0.mk hm5; have HM3 := Aside0.mk hM3; clear hw5 hm5 hM3 b8 hgl)
  refine bodyPost_ret (results_cell_row rfl _ _ (w.heap.size + 1) 32 _ (0, 0) _ rfl HW5.out Tryd.underlying32 rfl (by kernel_rfl)) rfl ⟨rfl, w.heap.size + 1 + 1, ⟨?_, ?_, fun k e h => by cases h⟩, by omega, ?_⟩
  · have hgl := HG.out
    exact HM5.out.blk (blk_put (blk_alloc (blk_alloc (blk_alloc HM.out.blk _) _) _) 0 _ rfl) (by omega)
  · have hgl := HG.out
    have hn := Mp.new ((w.alloc (.cells (r.c kv) 27)).alloc (.cells A0 32))
    rw [HS.out.2] at hn
    exact (hn.mod HM3.out (by omega)).mod HM5.out (by omega)
  · have hB := below_alloc (below_alloc (below_alloc (Below.refl w.heap.size w) (.cells (r.c kv) 27)) (.cells A0 32)) (.map #[] 0)
    exact ((Mod.of_below hB (fun q => q = g)).trans HM3.out (fun q hq => .inl hq)).trans HM5.out (fun q hq => .inr (by omega))
end Go.Proofs.YtepklobkppdliaaDoor.Md
end
section
namespace Go.Proofs.YtepklobkppdliaaDoor.Md
open Go.RowKit Go.Proofs.YtepklobkppdliaaDoorW.PrintWords Go.Proofs.YtepklobkppdliaaDoorW.PrintLast Go.Proofs.YtepklobkppdliaaDoorW.PrintMore Go.Proofs.YtepklobkppdliaaDoor.Lib Go.Proofs.YtepklobkppdliaaDoor.Open
/-- What 'of' makes. -/
def rqOf (verb : Int) (data : ByteArray) (delta : Int) : Rq := ⟨verb, 0, 0, data.size, 0, delta, false, data⟩
set_option maxHeartbeats 4000000 in
set_option maxRecDepth 100000 in
theorem of_calls (verb : Int) (key data : ByteArray) (delta : Int) (w : World) :
    Calls Tryd.prog 15 #[.int .i64 verb, .string key, .string data, .int .u64 delta] w fun e w' => ∃ g, e = .returned (.agg ((rqOf verb data delta).c (.slice (some ⟨g, 0, none⟩) 1 1))) ∧ w'.heap[g]? = some (.cells #[.string key] 9 (0, 0)) ∧ w.heap.size ≤ g ∧ Below w.heap.size w w' := by
  go_enter Tryd.func15, Tryd.ntmps15
  go_wp2
  refine bodyPost_ret (results_cell_row rfl _ _ w.heap.size 27 ((rqOf verb data delta).c (.slice (some ⟨w.heap.size + 1, 0, none⟩) 1 1)) (0, 0) _ rfl (blk_alloc (blk_new w _) _) Tryd.underlying27 rfl (by kernel_rfl)) rfl ⟨w.heap.size + 1, rfl, ?_, by omega, below_alloc (below_alloc (Below.refl _ _) _) _⟩
  rw [heap_at, if_pos (by simp)]
/-- A request of one key. -/
def applyTo (f : ByteArray → Option Ent) (r : Rq) (k : ByteArray) (now ver : Int) : An × (ByteArray → Option Ent) :=
  ((nextOf r ((liveOf f k now).getD (keyEnt k)) (liveOf f k now).isSome now ver).1,
   if (nextOf r ((liveOf f k now).getD (keyEnt k)) (liveOf f k now).isSome now ver).2.2.1 = true then upd f k (some (nextOf r ((liveOf f k now).getD (keyEnt k)) (liveOf f k now).isSome now ver).2.1)
   else if (nextOf r ((liveOf f k now).getD (keyEnt k)) (liveOf f k now).isSome now ver).2.2.2 = true then upd f k none else f)
theorem live_fine {w : World} {g b n : Nat} {f : ByteArray → Option Ent} (h : Md w g b n f) (r : Rq) (k : ByteArray) (now : Int) (hd : r.data.size ≤ 140737488355328) (h0 : 0 ≤ r.delta) : Fine r ((liveOf f k now).getD (keyEnt k)) := by
  refine ⟨hd, ?_, h0⟩
  unfold liveOf
  cases hf : f k with
  | none =>
    show ByteArray.size ⟨#[]⟩ ≤ _
    decide
  | some e =>
    show ((if live e.dl now = true then some e else none).getD (keyEnt k)).val.size ≤ _
    split
    · exact h.vs k e hf
    · show ByteArray.size ⟨#[]⟩ ≤ _
      decide
theorem upd_vs {f : ByteArray → Option Ent} (h : ∀ k e, f k = some e → e.val.size ≤ 140737488355328) (k : ByteArray) (x : Option Ent) (hx : ∀ e, x = some e → e.val.size ≤ 140737488355328) : ∀ j e, upd f k x j = some e → e.val.size ≤ 140737488355328 := by
  intro j e he
  unfold upd at he
  split at he
  · exact hx e he
  · exact h j e he
theorem apply_one (g b n : Nat) (f : ByteArray → Option Ent) (r : Rq) (k : ByteArray) (ad : Addr) (cap : Nat) (now ver : Int) (w : World) (h : Md w g b n f) (hn : n < maxLen) (hk : k.size ≤ maxLen) (hc : w.cell? ad = some (.string k))
    (hv : r.verb ≠ 1 ∧ r.verb ≠ 2 ∧ r.verb ≠ 13) (ht : Pow w) (hd : r.data.size ≤ 140737488355328) (h0 : 0 ≤ r.delta) :
    Calls Tryd.prog 16 #[.pointer (some ⟨g, 0, none⟩), .agg (r.c (.slice (some ad) 1 cap)), .int .i64 now, .int .i64 ver] w fun e w' => e = .returned (.agg (applyTo f r k now ver).1.c) ∧ Md w' g b (n + 1) (applyTo f r k now ver).2 ∧ Mod (fun q => q = b) w w' := by
  have hF := live_fine h r k now hd h0
  obtain ⟨hs, hkd⟩ := next_fine r ((liveOf f k now).getD (keyEnt k)) (liveOf f k now).isSome now ver hF
  unfold applyTo
  obtain ⟨⟨a, x, kp, dr⟩, hN⟩ : ∃ N, N = nextOf r ((liveOf f k now).getD (keyEnt k)) (liveOf f k now).isSome now ver := ⟨_, rfl⟩
  rw [← hN] at hs hkd ⊢
  have hgb : ∀ w', Mod (fun q => q = b) w w' → w'.heap[g]? = some (.cells #[.map (some b)] 82 (0, 0)) := fun w' hm => hm.blk h.blk (fun e => h.ne e.symm)
  cases kp
  · cases dr
    · refine (apply_none g b n f r k ad cap now ver a x w h hn hk hc hv ht hF hN.symm).mono fun e w' ⟨h1, h2, h3⟩ => ⟨h1, ⟨hgb w' h3, ?_, ?_⟩, h3⟩
      · exact h2.mono (by omega)
      · exact h.vs
    · refine (apply_drop g b n f r k ad cap now ver a x w h hn hk hc hv ht hF hN.symm).mono fun e w' ⟨h1, h2, h3⟩ => ⟨h1, ⟨hgb w' h3, ?_, ?_⟩, h3⟩
      · exact h2.mono (by omega)
      · exact upd_vs h.vs k none (fun e he => by cases he)
  · have hdr : dr = false := hkd rfl
    subst hdr
    refine (apply_keep g b n f r k ad cap now ver a x w h hn hk hc hv ht hF hN.symm).mono fun e w' ⟨h1, h2, h3⟩ => ⟨h1, ⟨hgb w' h3, h2, ?_⟩, h3⟩
    exact upd_vs h.vs k (some x) (fun e he => by rw [← Option.some.inj he]; exact hs)
end Go.Proofs.YtepklobkppdliaaDoor.Md
end
