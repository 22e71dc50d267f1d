/- NetOnce answers true: frames that are sent and delivered, none dropped: each comes once. -/
import Derived.Test.YtiifekdcikcgpaaNetT
import Derived.Test.YtiifekdcikcgpaaOpen
import Derived.Test.YtiifekdcikcgpaaLib2
import Derived.Deep.RegionHeld3
import Derived.Deep.LoopGhost
import Derived.Deep.DeepCutAuto
import Derived.Deep.CutBlock
namespace Go.Proofs.Ytiifekdcikcgpaa.Net
open Go.RowKit Go.Proofs.YtiifekdcikcgpaaW.PrintWords Go.Proofs.YtiifekdcikcgpaaW.PrintLast Go.Proofs.Ytiifekdcikcgpaa.Lib Go.Proofs.Ytiifekdcikcgpaa.Open
theorem within (a lo hi n : Int) (h0 : 0 < n) (hn : n ≤ 1099511627776) (hl : -1099511627776 ≤ lo) (hl' : lo ≤ 1099511627776) (e : hi - lo + 1 = n) : ∃ r, PNetOrder.depotbook_Within.f a lo hi = some r ∧ lo ≤ r ∧ r ≤ hi := by
  unfold PNetOrder.depotbook_Within.f
  have e : wrap64 (wrap64 (hi - lo) + 1) = n := by unfold wrap64; omega
  rw [e, if_neg (by omega)]
  have hm1 := Int.tmod_lt_of_pos a h0
  have hm2 : -n < Int.tmod a n := by
    have := Int.tmod_lt_of_pos (-a) h0
    rw [Int.neg_tmod] at this
    omega
  generalize Int.tmod a n = m at *
  by_cases c : m < 0
  · rw [if_pos c]
    refine ⟨_, rfl, ?_⟩
    unfold wrap64
    omega
  · rw [if_neg c]
    refine ⟨_, rfl, ?_⟩
    unfold wrap64
    omega
/-- Within: a number in the bounds. -/
theorem within_calls (a lo hi : Int) (w : World) (h0 : lo ≤ hi) (hl : -1000000 ≤ lo) (hh : hi ≤ 1000000) :
    Calls Try.prog 16 #[.int .i64 a, .int .i64 lo, .int .i64 hi] w fun e w' => ∃ r : Int, e = .returned (.int .i64 r) ∧ lo ≤ r ∧ r ≤ hi ∧ Below w.heap.size w w' := by
  obtain ⟨r, h, h1, h2⟩ := within a lo hi (hi - lo + 1) (by omega) (by omega) (by omega) (by omega) rfl
  exact (PNetOrder.depotbook_Within.calls a lo hi r w h).mono fun e w' ⟨h3, h4⟩ => ⟨r, h3, h1, h2, h4.below⟩
theorem Is.isrow {W : World} {B g : Nat} {v : Value} {xs : List Fr} (h : Is W B g v xs) {e : TypeId} {base s n : Nat} {u : Value} {ys : List Value} (hr : W.ownsRow base e s u n ys) (he : e ≠ 32) : ∀ q, u.ownBlock = some q → v.ownBlock ≠ some q := by
  intro q hq hv
  obtain ⟨c1, h1⟩ := own_typed hr q hq
  obtain ⟨c2, h2⟩ := own_typed h.row q hv
  rw [h1] at h2
  injection h2 with h2
  injection h2 with _ h3
  exact he h3
/-- A number's cell. -/
def icl (x : Int) : List Value := [.int .i64 x]
theorem icl_length (x : Int) : (icl x).length = 1 := rfl
def icL : List Leaf := [.int .i64]
theorem ic_mk (cs : List Value) (h : Fits icL cs) : ∃ a, cs = icl a := by
  obtain ⟨k, _, rfl, _, rfl⟩ := h
  exact ⟨k, rfl⟩
def frn (r : Nat) : Fr := fr (r : Int)
theorem erase_map (f : Nat → Fr) (rs : List Nat) (p : Nat) : (rs.map f).eraseIdx p = (rs.eraseIdx p).map f := by
  rw [List.eraseIdx_eq_take_drop_succ, List.eraseIdx_eq_take_drop_succ, List.map_append, List.map_take, List.map_drop]
/-- What is on its way, and which have come. -/
structure Once (w0 wr : World) (B g s k : Nat) (v : Value) (rs : List Nat) (sn : List Bool) : Prop where
  a : Is wr B g v (rs.map frn)
  row : wr.ownsRow B 4 1 (.slice (some ⟨s, 0, none⟩) k k) k (sn.map Value.bool)
  below : Below B w0 wr
  nd : rs.Nodup
  open_ : ∀ r ∈ rs, r < k ∧ sn[r]? = some false
theorem Once.far {w0 W W1 : World} {B g s k : Nat} {v : Value} {rs : List Nat} {sn : List Bool} (p : Once w0 W B g s k v rs sn) (hb : Below W.heap.size W W1) : Once w0 W1 B g s k v rs sn :=
  ⟨p.a.below hb, pw_own_below p.row hb, p.below.trans (hb.mono (Nat.le_of_lt (Nat.lt_of_le_of_lt p.a.ge (blk_lt p.a.blk)))), p.nd, p.open_⟩
theorem Once.size {w0 W : World} {B g s k : Nat} {v : Value} {rs : List Nat} {sn : List Bool} (p : Once w0 W B g s k v rs sn) : B ≤ W.heap.size := Nat.le_of_lt (Nat.lt_of_le_of_lt p.a.ge (blk_lt p.a.blk))
theorem Once.sg {w0 W : World} {B g s k : Nat} {v : Value} {rs : List Nat} {sn : List Bool} (p : Once w0 W B g s k v rs sn) : s ≠ g := fun e => own_ne p.row p.a.blk (by decide) (by rw [e]; rfl)
theorem Once.sv {w0 W : World} {B g s k : Nat} {v : Value} {rs : List Nat} {sn : List Bool} (p : Once w0 W B g s k v rs sn) : v.ownBlock ≠ some s := p.a.isrow p.row (by decide) s rfl
theorem Once.side {w0 W W1 : World} {B g s k gb : Nat} {v : Value} {rs : List Nat} {sn : List Bool} (p : Once w0 W B g s k v rs sn) (hm : Mod (fun k => k = gb) W W1) (hB : B ≤ gb) (h1 : g ≠ gb) (h2 : s ≠ gb) (h3 : v.ownBlock ≠ some gb) : Once w0 W1 B g s k v rs sn :=
  ⟨p.a.mod1 hm h1 h3, hm.own p.row (fun q hq e => h2 ((Option.some.inj hq).trans e)), hm.after p.below p.size (fun k hk => by rw [hk]; exact hB), p.nd, p.open_⟩
/-- A frame has been delivered. -/
theorem Once.took {w0 W W1 : World} {B g s k p : Nat} {v v1 : Value} {rs : List Nat} {sn : List Bool} (q : Once w0 W B g s k v rs sn) (hi : Is W1 B g v1 ((rs.map frn).eraseIdx p)) (hm : Mod (fun k => k = g ∨ some k = v.ownBlock) W W1) :
    Once w0 W1 B g s k v1 (rs.eraseIdx p) sn :=
  ⟨by rw [erase_map] at hi; exact hi, hm.own q.row (fun b hb e => e.elim (fun e => q.sg ((Option.some.inj hb).trans e)) (fun e => q.sv (e.symm.trans (congrArg some (Option.some.inj hb).symm)))),
    q.a.after q.below hm, q.nd.eraseIdx p, fun r hr => q.open_ r (List.mem_of_mem_eraseIdx hr)⟩
/-- .. and is marked. -/
theorem Once.mark {w0 W : World} {B g s k r : Nat} {v : Value} {rs : List Nat} {sn : List Bool} (q : Once w0 W B g s k v rs sn) (hr : r ∉ rs) (hs : s ≠ g) (hv : v.ownBlock ≠ some s) (hB : B ≤ s) : Once w0 (W.setCell ⟨s, r, none⟩ (.bool true)) B g s k v rs (sn.set r true) := by
  obtain ⟨h1, h2⟩ := own_set1 q.row r (.bool true)
  refine ⟨q.a.mod1 h2 hs.symm hv, by rw [List.map_set]; exact h1, h2.after q.below q.size (fun k hk => by rw [hk]; exact hB), q.nd, fun r' hr' => ⟨(q.open_ r' hr').1, ?_⟩⟩
  rw [List.getElem?_set_ne (fun e => hr (by rw [e]; exact hr'))]
  exact (q.open_ r' hr').2
theorem nodup_erase {rs : List Nat} {p r : Nat} (h : rs.Nodup) (hp : rs[p]? = some r) : r ∉ rs.eraseIdx p := by
  intro hm
  obtain ⟨q, hq, hqr⟩ := List.mem_eraseIdx_iff_getElem?.1 hm
  have h1 := (List.getElem?_inj (List.getElem?_eq_some_iff.1 hp).1 h).1 (hp.trans hqr.symm)
  omega
/-- The first loop: i frames are sent. -/
def SentAt (w0 : World) (B g m : Nat) (k : Nat) (s7 : Value) (wr : World) : Prop :=
  ∃ (i : Nat) (v : Value), s7 = .int .i64 (i : Int) ∧ i + k = m ∧ Is wr B g v ((List.range i).map frn) ∧ Below B w0 wr
/-- The second loop: i have come. -/
def OnceAt (w0 : World) (B g s m : Nat) (k : Nat) (s9 : Value) (wr : World) : Prop :=
  ∃ (i : Nat) (v : Value) (rs : List Nat) (sn : List Bool), s9 = .int .i64 (i : Int) ∧ i + k = m ∧ rs.length = k ∧ Once w0 wr B g s m v rs sn
set_option maxHeartbeats 8000000 in
set_option maxRecDepth 100000 in
theorem once_calls (a0 : Int) (A : Option Addr) (n c : Nat) (l : List Int) (w : World) (hA : Arg icl w A n l) :
    Calls Try.prog 9 #[.int .i64 a0, .slice A n c] w fun e w' => e = .returned (.bool true) ∧ Below w.heap.size w w' := by
  have HB := Aside0.mk (Below.refl w.heap.size w)
  have HA := Aside0.mk hA
  have hn : n ≤ 9223372036854775807 := hA.2.1
  clear hA
  go_enter Try.func9, Try.ntmps9
  go_wp2_with (first | (go_at_call 17; (with_reducible refine (new_calls w _ HB.out).mono ?_); rintro e_1 w_1 ⟨g, rfl, hi, hb⟩; have HI := Aside0.mk hi; have HB_n := Aside0.mk (below_step HB.out hb); clear HB; have HB := HB_n; clear HB_n; clear hi hb) | (go_at_call 16; (with_reducible refine (within_calls a0 0 60 _ (by decide) (by decide) (by decide)).mono ?_); rintro e_1 w_1 ⟨m0, rfl, hm0, hm1, hb⟩; obtain ⟨m, rfl⟩ := Int.eq_ofNat_of_zero_le hm0; have HS := Aside0.mk (show SentAt w w.heap.size g m m (.int .i64 0) w_1 from ⟨0, _, rfl, by omega, HI.out.below hb, below_step HB.out hb⟩); clear HB HI hb hm0))
  have hm2 : m ≤ 60 := by omega
  clear hm1
  go_loopg [7] m (fun k s7 wr => SentAt w w.heap.size g m k s7 wr)
  case atStart => exact HS.out
  case round =>
    obtain ⟨i, v, rfl, hik, hi, hb⟩ := hrel
    have HI := Aside0.mk hi
    have HB := Aside0.mk hb
    clear hi hb HS
    by_cases hlt : i < m
    · have HL := Aside0.mk (show ((List.range i).map frn).length < 4000 from by simp; omega)
      go_wp2_with (first | (go_at_call 19; (with_reducible refine (of_calls _ _).mono ?_); rintro e_1 w_1 ⟨rfl, hb⟩; have HI_n := Aside0.mk (HI.out.below hb); have HB_n := Aside0.mk (below_then HB.out (Nat.le_of_lt (Nat.lt_of_le_of_lt HI.out.ge (blk_lt HI.out.blk))) hb); clear HI; have HI := HI_n; clear HI_n; clear HB; have HB := HB_n; clear HB_n; clear hb) | (go_at_call 18; (with_reducible refine (send_room w.heap.size g v _ _ w _ HI.out HB.out HL.out).mono ?_); rintro e_1 w_1 ⟨rfl, v1, hi, hm, _⟩; have HI_n := Aside0.mk hi; have HB_n := Aside0.mk (HI.out.after HB.out hm); clear HI HB; have HI := HI_n; have HB := HB_n; clear HI_n HB_n hi hm))
      go_roundg (m - (i + 1))
      case measure => omega
      case rel => exact ⟨i + 1, _, by go_num, by omega, by rw [List.range_succ, List.map_append]; exact HI.out, HB.out⟩
    · obtain rfl : i = m := by omega
      have e0 : ((i : Nat) : Int) = (i : Int) := rfl
      go_wp2_with (refine ev_make (.makeSlice 50 (.tmp 30) (.tmp 30)) rfl rfl 50 4 (.tmp 30) (.tmp 30) rfl Try.underlying50 (.bool false) 1 (by kernel_rfl) rfl i .i64 .i64 rfl rfl (by omega) (by unfold maxLen; omega) ?_; intro s hgs w_1 hrow hb; have HO := Aside0.mk (show OnceAt w w.heap.size g s i i (.int .i64 0) w_1 from ⟨0, v, List.range i, List.replicate i false, rfl, by omega, by simp, HI.out.below hb, by rw [List.map_replicate]; exact own_less hrow HB.out.size, below_step HB.out hb, List.nodup_range, fun r hr => ⟨by simpa using hr, by rw [List.getElem?_replicate, if_pos (by simpa using hr)]⟩⟩); clear HI HB hgs hrow hb)
      go_loopg [9] i (fun k s9 wr => OnceAt w w.heap.size g s i k s9 wr)
      case atStart => exact HO.out
      case round =>
        obtain ⟨j, v2, rs, sn, rfl, hjk, hrl, hq⟩ := hrel
        have HQ := Aside0.mk hq
        have HRL := Aside0.mk hrl
        clear hq HO hlt
        by_cases hj : j < i
        · have hr0 : 0 < rs.length := by omega
          have h1 : decide ((0 : Int) < ((rs.length : Nat) : Int)) = true := decide_eq_true (by omega)
          have h2 : decide ((j : Int) < (i : Int)) = true := decide_eq_true (by omega)
          have hrm : rs.length ≤ 60 := by omega
          clear hrl
          go_upto_if 45 with (go_at_call 25; (with_reducible refine (len_calls w.heap.size g v2 (rs.map frn) _ HQ.out.a).mono ?_); rintro e_1 w_1 ⟨rfl, hb⟩; have HQ_n := Aside0.mk (HQ.out.far hb); clear HQ; have HQ := HQ_n; clear HQ_n; clear hb)
          go_cut [10] (fun s10 wc => ∃ p : Nat, s10 = .int .i64 (p : Int) ∧ p < rs.length ∧ Once w wc w.heap.size g s i v2 rs sn)
          case first =>
            by_cases hp : j < n
            · have h3 : decide ((j : Int) < (n : Int)) = true := decide_eq_true (by omega)
              obtain ⟨x, hx⟩ : ∃ x, l[j]? = some x := ⟨_, List.getElem?_eq_getElem (by have := HA.out.1; omega)⟩
              obtain ⟨b, o, rfl, hr⟩ := (HA.out.below HQ.out.below).at_ icl_length j x hx
              have hcx : ∀ W : World, W.rangeAt b (o + j * 1) (icl x) → W.cell? ⟨b, o + j, none⟩ = some (.int .i64 x) := fun W h => by have := h 0 _ rfl; rwa [Nat.mul_one, Nat.add_zero] at this
              go_wp2_with fail
              obtain ⟨W, hW⟩ : ∃ W, W = w_1 := ⟨_, rfl⟩
              have HQ_n := Aside0.mk (show Once w W.drew w.heap.size g s i v2 rs sn from by rw [hW]; exact HQ.out.far (below_drew (Below.refl _ _)))
              have HR := Aside0.mk (show W.drew.rangeAt b (o + j * 1) (icl x) from by rw [hW]; exact hr)
              rw [← hW]
              clear hW HQ hr
              have HQ := HQ_n
              clear HQ_n
              have HCX := Aside0.mk hcx
              clear hcx
              have hsub : IntKind.i64.wrap (((rs.length : Nat) : Int) - 1) = ((rs.length : Nat) : Int) - 1 := by rw [IntKind.wrap_i64]; omega
              go_region_held3 (fun W' => W'.cell? ⟨b, o + j, none⟩ = some (.int .i64 x)) (exact HCX.out _ HR.out) (first | (go_at_call 25; (with_reducible refine (len_calls w.heap.size g v2 (rs.map frn) _ HQ.out.a).mono ?_); rintro e_1 w_1 ⟨rfl, hb⟩; have HQ_n := Aside0.mk (HQ.out.far hb); have HR_n := Aside0.mk ((fun j v hv => pw_cell_below hb (HR.out j v hv))); clear HQ; have HQ := HQ_n; clear HQ_n; clear HR; have HR := HR_n; clear HR_n; clear hb) | (go_at_call 16; refine (within_calls x 0 _ _ (by omega) (by decide) (by omega)).mono ?_; rintro e_1 w_1 ⟨m0, rfl, hm0, hm1, hb⟩; have HM := Aside0.mk (And.intro hm0 hm1); have HQ_n := Aside0.mk (HQ.out.far hb); have HR_n := Aside0.mk ((fun j v hv => pw_cell_below hb (HR.out j v hv))); clear HQ; have HQ := HQ_n; clear HQ_n; clear HR; have HR := HR_n; clear HR_n; clear hb hm0 hm1))
              go_wp2_with fail
              go_meet
              case rel =>
                obtain ⟨hm0, hm1⟩ := HM.out
                obtain ⟨p, rfl⟩ := Int.eq_ofNat_of_zero_le hm0
                exact ⟨p, rfl, by omega, HQ.out⟩
            · have h3 : decide ((j : Int) < (n : Int)) = false := decide_eq_false (by omega)
              go_wp2_with fail
              go_meet
              case rel => exact ⟨0, rfl, hr0, HQ.out⟩
          case rest =>
            obtain ⟨p, rfl, hp, hq⟩ := hcut
            obtain ⟨r, hr⟩ : ∃ r, rs[p]? = some r := ⟨_, List.getElem?_eq_getElem hp⟩
            have hopen := hq.open_ r (List.mem_of_getElem? hr)
            have hrk : r < i := hopen.1
            have HQ_n := Aside0.mk hq
            clear HQ
            have HQ := HQ_n
            have HX := Aside0.mk (show (rs.map frn)[((p : Nat) : Int).toNat]? = some (frn r) from by rw [Int.toNat_natCast, List.getElem?_map, hr]; rfl)
            have HLE := Aside0.mk (show (rs.map frn).length ≤ 4000 from by rw [List.length_map]; omega)
            have HO := Aside0.mk hopen.2
            have HNM := Aside0.mk (nodup_erase hq.nd hr)
            have HP := Aside0.mk hp
            have t1 : decide ((r : Int) < 0) = false := decide_eq_false (by omega)
            have t2 : decide ((i : Int) ≤ (r : Int)) = false := decide_eq_false (by omega)
            clear HQ_n hq hr hopen hp h1 h2
            go_wp2_with (first | (go_at_call 20; (with_reducible refine (deliverZ w.heap.size g v2 (rs.map frn) p (frn r) _ HQ.out.a (by omega) HX.out HLE.out).mono ?_); rintro e_1 w_1 ⟨rfl, v3, hi, hm, hv⟩; have HQ_n := Aside0.mk (HQ.out.took hi hm); clear HQ; have HQ := HQ_n; clear HQ_n hi hm hv) | (refine gate_ (.alloc 32) rfl ?_; refine box_event ?hg (N := 11) ?hd (cs := (cl z).toArray) (t := 32) ?hr ?_; (case hd => rfl); (case hg => rfl); (case hr => first | (go_simp; done) | (go_simp; rfl)); intro g11 hgb w_1 hbox hb; have K_11 := Aside0.mk hbox; have F := Aside0.mk (show g ≠ g11 ∧ s ≠ g11 ∧ v3.ownBlock ≠ some g11 ∧ w.heap.size ≤ g11 from by rw [hgb]; exact ⟨Nat.ne_of_lt (blk_lt HQ.out.a.blk), fun e => Nat.ne_of_lt (own_lt HQ.out.row s rfl) e, fun e => Nat.lt_irrefl _ (HQ.out.a.lt _ e), HQ.out.size⟩); have HQ_n := Aside0.mk (HQ.out.far hb); clear HQ; have HQ := HQ_n; clear HQ_n; clear hgb hbox hb) | (refine ev_store_row (.store 32 (.tmp 11) (.tmp 58)) rfl rfl rfl 32 (.tmp 11) (.tmp 58) rfl g11 (cl (frn r)).toArray rfl rfl 32 (cl z).toArray K_11.out (by kernel_rfl) rfl (cls_all _) ?_; intro w_2 hw2 hm2; have HQ_n := Aside0.mk (HQ.out.side hm2 F.out.2.2.2 F.out.1 F.out.2.1 F.out.2.2.1); clear HQ K_11; have HQ := HQ_n; have hc3 := (blk_cell hw2 3).trans (show (cl (frn r)).toArray[3]? = some (Value.int .i64 (r : Int)) from rfl); have hcs := (HQ.out.row.cellAt r (by omega)).trans (show (sn.map Value.bool)[r]? = some (Value.bool false) from by rw [List.getElem?_map, HO.out]; rfl); have hfs := HQ.out.row.frozenAt r; clear HQ_n hw2 hm2))
            go_roundg (i - (j + 1))
            case measure => omega
            case rel =>
              have hs : 0 < i := by omega
              exact ⟨j + 1, _, _, _, by go_num, by omega, by show (rs.eraseIdx p).length = _; rw [List.length_eraseIdx_of_lt HP.out, HRL.out]; omega, HQ.out.mark HNM.out HQ.out.sg HQ.out.sv (own_base HQ.out.row s rfl)⟩
        · obtain rfl : rs = [] := List.length_eq_zero_iff.1 (by omega)
          obtain rfl : j = i := by omega
          clear hrl hjk
          go_wp2_with (first | (go_at_call 25; (with_reducible refine (len_calls w.heap.size g _ ([].map frn) _ HQ.out.a).mono ?_); rintro e_1 w_1 ⟨rfl, hb⟩; have HQ_n := Aside0.mk (HQ.out.far hb); clear HQ; have HQ := HQ_n; clear HQ_n; clear hb) | (go_at_call 20; (with_reducible refine (deliver_out w.heap.size g v2 ([].map frn) 0 _ HQ.out.a (.inr (by decide))).mono ?_); rintro e_1 w_1 ⟨rfl, v3, hi, hm, hv⟩; have HQ_n := Aside0.mk (show Once w _ w.heap.size g s _ v3 [] sn from HQ.out.took (p := 0) hi hm); clear HQ; have HQ := HQ_n; clear HQ_n hi hm hv) | (refine gate_ (.alloc 32) rfl ?_; refine box_event ?hg (N := 13) ?hd (cs := (cl z).toArray) (t := 32) ?hr ?_; (case hd => rfl); (case hg => rfl); (case hr => first | (go_simp; done) | (go_simp; rfl)); intro g11 hgb w_1 hbox hb; have K_11 := Aside0.mk hbox; have F := Aside0.mk (show g ≠ g11 ∧ s ≠ g11 ∧ v3.ownBlock ≠ some g11 ∧ w.heap.size ≤ g11 from by rw [hgb]; exact ⟨Nat.ne_of_lt (blk_lt HQ.out.a.blk), fun e => Nat.ne_of_lt (own_lt HQ.out.row s rfl) e, fun e => Nat.lt_irrefl _ (HQ.out.a.lt _ e), HQ.out.size⟩); have HQ_n := Aside0.mk (HQ.out.far hb); clear HQ; have HQ := HQ_n; clear HQ_n; clear hgb hbox hb) | (refine ev_store_row (.store 32 (.tmp 13) (.tmp 87)) rfl rfl rfl 32 (.tmp 13) (.tmp 87) rfl g11 (cl z).toArray rfl rfl 32 (cl z).toArray K_11.out (by kernel_rfl) rfl (cls_all _) ?_; intro w_2 hw2 hm2; have HQ_n := Aside0.mk (HQ.out.side hm2 F.out.2.2.2 F.out.1 F.out.2.1 F.out.2.2.1); clear HQ K_11; have HQ := HQ_n; clear HQ_n hw2 hm2) | (go_at_call 7; (with_reducible refine (runs_calls _).mono ?_); rintro e_1 w_1 ⟨rfl, hb⟩; have HQ_n := Aside0.mk (HQ.out.far hb); clear HQ; have HQ := HQ_n; clear HQ_n; clear hb))

          all_goals go_ret
          all_goals exact ⟨rfl, HQ.out.below⟩
end Go.Proofs.Ytiifekdcikcgpaa.Net
