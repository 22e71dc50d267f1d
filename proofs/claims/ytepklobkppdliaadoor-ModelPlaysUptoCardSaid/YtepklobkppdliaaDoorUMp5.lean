/- The model: any request, of the program's and of the document's. -/
import Derived.Test.YtepklobkppdliaaDoorUMp4
import Derived.Test.YtepklobkppdliaaDoorUAh
namespace Go.Proofs.YtepklobkppdliaaDoor.Mp
open Go.RowKit Go.Proofs.YtepklobkppdliaaDoorW.PrintWords Go.Proofs.YtepklobkppdliaaDoorW.PrintLast Go.Proofs.YtepklobkppdliaaDoorW.PrintMore Go.Proofs.YtepklobkppdliaaDoor.Lib Go.Proofs.YtepklobkppdliaaDoor.Open Go.Proofs.YtepklobkppdliaaDoor.Md
open Go.Proofs.YtepklobkppdliaaDoor.Rm (Rm)
set_option maxHeartbeats 8000000 in
set_option maxRecDepth 100000 in
theorem rap_short (m : Nat) (r : Rq) (A : Option Addr) (k cap : Nat) (now ver : Int) (w : World) (hm : k ≠ 1) (hv : r.verb ≠ 1 ∧ r.verb ≠ 2 ∧ r.verb ≠ 13) :
    Calls Tryd.prog 32 #[.pointer (some ⟨m, 0, none⟩), .agg (r.c (.slice A k cap)), .int .i64 now, .int .i64 ver] w fun e w' => e = .returned (.agg (ans 0 0 ⟨#[]⟩)) ∧ Below w.heap.size w w' := by
  have e1 : (r.verb == 1) = false := beq_eq_false_iff_ne.2 hv.1
  have e2 : (r.verb == 2) = false := beq_eq_false_iff_ne.2 hv.2.1
  have e13 : (r.verb == 13) = false := beq_eq_false_iff_ne.2 hv.2.2
  have em : ((k : Int) != 1) = true := bne_iff_ne.2 (by omega)
  clear hv hm
  simp only [Rq.c]
  go_enter Tryd.func32, Tryd.ntmps32
  go_wp2
  have s1 : (w.alloc (.cells (r.c (.slice A k cap)) 27)).heap.size = w.heap.size + 1 := by simp
  refine bodyPost_ret (results_cell_row rfl _ _ (w.heap.size + 1) 32 (ans 0 0 ⟨#[]⟩) (0, 0) _ rfl ?_ Tryd.underlying32 rfl (by kernel_rfl)) rfl ⟨rfl, below_alloc (below_alloc (Below.refl _ _) _) _⟩
  rw [← s1]
  exact blk_new (w.alloc (.cells (r.c (.slice A k cap)) 27)) _
set_option maxHeartbeats 8000000 in
set_option maxRecDepth 100000 in
theorem rap_flush (B m : Nat) (v : Value) (L : List Ent) (r : Rq) (kv : Value) (now ver : Int) (w : World) (h : Rm w B m v L) (hv : r.verb = 13) :
    Calls Tryd.prog 32 #[.pointer (some ⟨m, 0, none⟩), .agg (r.c kv), .int .i64 now, .int .i64 ver] w fun e w' => e = .returned (.agg (ans 9 0 ⟨#[]⟩)) ∧ Rm w' B m (.slice none 0 0) [] ∧ Mod (fun q => q = m) w w' := by
  have e1 : (r.verb == 1) = false := by rw [hv]; rfl
  have e2 : (r.verb == 2) = false := by rw [hv]; rfl
  have e13 : (r.verb == 13) = true := by rw [hv]; rfl
  have s1 : (w.alloc (.cells (r.c kv) 27)).heap.size = w.heap.size + 1 := by simp
  have HS := Aside0.mk s1
  have HG := Aside0.mk h.lt
  have c0 : ∀ o1 o2, ((w.alloc o1).alloc o2).cell? ⟨m, 0, none⟩ = some v := fun o1 o2 => blk_cell (blk_alloc (blk_alloc h.blk o1) o2) 0
  have f0 : ∀ o1 o2, ((w.alloc o1).alloc o2).frozen? ⟨m, 0, none⟩ = false := fun o1 o2 => blk_frozen (blk_alloc (blk_alloc h.blk o1) o2) 0
  have HM := Aside0.mk h
  clear h hv s1
  simp only [Rq.c]
  go_enter Tryd.func32, Tryd.ntmps32
  go_wp2_with (refine gate_ (.store 32 (.tmp 8) (.tmp 76)) rfl ?_; have hgl := HG.out; have hM3 := Mod.setCell (p := ⟨m, 0, none⟩) (Mod.refl (fun q => q = m) ((w.alloc (.cells (r.c kv) 27)).alloc (.cells A0 32))) (.inl rfl) (.slice none 0 0); have b8 := hM3.blk (show ((w.alloc (.cells (r.c kv) 27)).alloc (.cells A0 32)).heap[w.heap.size + 1]? = some (.cells A0 32) by rw [← HS.out]; exact blk_new _ _) (by omega); refine ev_store_row (.store 32 (.tmp 8) (.tmp 76)) rfl rfl rfl 32 (.tmp 8) (.tmp 76) rfl (w.heap.size + 1) (ans 9 0 ⟨#[]⟩) rfl rfl 32 A0 b8 (by kernel_rfl) rfl (ans_one _ _ _) ?_; intro w_5 hw5 hm5; have HM3 := Aside0.mk hM3; have HW5 := Aside0.mk hw5; have HM5 := Aside0.mk hm5; clear hM3 b8 hw5 hm5 hgl)
  have hgl := HG.out
  have hB := below_alloc (below_alloc (Below.refl w.heap.size w) (.cells (r.c kv) 27)) (.cells A0 32)
  refine bodyPost_ret (results_cell_row rfl _ _ (w.heap.size + 1) 32 _ (0, 0) _ rfl HW5.out Tryd.underlying32 rfl (by kernel_rfl)) rfl ⟨rfl, ⟨HM5.out.blk (blk_put (blk_alloc (blk_alloc HM.out.blk _) _) 0 _ rfl) (by omega), HM.out.ge, own_nil _ _ _ _⟩, ?_⟩
  exact ((Mod.of_below hB (fun q => q = m)).trans HM3.out (fun q hq => .inl hq)).trans HM5.out (fun q hq => .inr (by omega))
/-- What a request comes to, of a map. -/
structure Out where
  k : Int
  L : List Ent
  ge : Bool
  n : Int
  t : ByteArray
def Out.c (o : Out) (A : Option Addr) (cA : Nat) : Array Value := anA o.k (.slice A o.L.length cA) o.ge o.n o.t
def oneOut (f : ByteArray → Option Ent) (r : Rq) (ks : List ByteArray) (now ver : Int) : Out × (ByteArray → Option Ent) :=
  match ks with
  | [k] => (⟨(applyTo f r k now ver).1.kind, [], false, (applyTo f r k now ver).1.num, (applyTo f r k now ver).1.text⟩, (applyTo f r k now ver).2)
  | _ => (⟨0, [], false, 0, ⟨#[]⟩⟩, f)
theorem oneOut_short (f : ByteArray → Option Ent) (r : Rq) (now ver : Int) : ∀ (ks : List ByteArray), ks.length ≠ 1 → oneOut f r ks now ver = (⟨0, [], false, 0, ⟨#[]⟩⟩, f)
  | [], _ => rfl
  | [_], h => absurd rfl h
  | _ :: _ :: _, _ => rfl
def outcome (f : ByteArray → Option Ent) (r : Rq) (ks : List ByteArray) (now ver : Int) : Out × (ByteArray → Option Ent) :=
  if r.verb = 1 then (⟨1, founds f ks now, false, 0, ⟨#[]⟩⟩, f)
  else if r.verb = 2 then (⟨1, founds f ks now, true, 0, ⟨#[]⟩⟩, f)
  else if r.verb = 13 then (⟨9, [], false, 0, ⟨#[]⟩⟩, fun _ => none)
  else oneOut f r ks now ver
/-- An answer that was told in new memory. -/
def Told (B : Nat) (w : World) (A : Option Addr) (L : List Ent) : Prop := Arg Rm.fcl w A L.length L ∧ (0 < L.length → ∃ bl o, A = some ⟨bl, o, none⟩ ∧ B ≤ bl ∧ bl < w.heap.size)
theorem Told.mono {B B' : Nat} {w : World} {A : Option Addr} {L : List Ent} (h : Told B w A L) (hB : B' ≤ B) : Told B' w A L :=
  ⟨h.1, fun h0 => by obtain ⟨bl, o, e, h1, h2⟩ := h.2 h0; exact ⟨bl, o, e, Nat.le_trans hB h1, h2⟩⟩
theorem Told.far {B : Nat} {w w' : World} {A : Option Addr} {L : List Ent} {S : Nat → Prop} (h : Told B w A L) (hm : Mod S w w') (hS : ∀ q, S q → q < B) : Told B w' A L :=
  ⟨⟨h.1.1, h.1.2.1, fun h0 => by
    obtain ⟨bl, o, e, hr⟩ := h.1.2.2 h0
    obtain ⟨bl2, o2, e2, hge, hlt⟩ := h.2 h0
    rw [e] at e2
    simp only [Option.some.injEq, Addr.mk.injEq, and_true] at e2
    obtain ⟨rfl, rfl⟩ := e2
    refine ⟨bl, o, e, fun j u hu => ?_⟩
    have := hr j u hu
    unfold World.cell? at this ⊢
    rw [hm.block bl hlt (fun hq => absurd (hS bl hq) (Nat.not_lt.2 hge))]
    exact this⟩, fun h0 => by
    obtain ⟨bl, o, e, hge, hlt⟩ := h.2 h0
    exact ⟨bl, o, e, hge, Nat.lt_of_lt_of_le hlt hm.size⟩⟩
theorem arg_none (B : Nat) (w : World) : Told B w none [] := ⟨⟨rfl, by show 0 ≤ _; omega, fun h => absurd h (by show ¬ 0 < 0; omega)⟩, fun h => absurd h (by show ¬ 0 < 0; omega)⟩
theorem arg_own {w : World} {B n : Nat} {v : Value} {xs : List Ent} (h : w.ownsRow B 35 4 v n (xs.flatMap Rm.fcl)) (hn : xs.length = n) (hl : n ≤ 9223372036854775807) : ∃ A c, v = .slice A n c ∧ Told B w A xs := by
  subst hn
  rcases h.2 with ⟨rfl, hz⟩ | ⟨g, cap, cur, rfl, hg, hh, h1, _, h3, h4⟩
  · have hx := List.length_eq_zero_iff.1 hz
    subst hx
    exact ⟨none, 0, rfl, arg_none _ _⟩
  · refine ⟨_, _, rfl, ⟨rfl, hl, fun _ => ⟨g, 0, rfl, fun j u hu => ?_⟩⟩, fun _ => ⟨g, 0, rfl, hg, blk_lt hh⟩⟩
    rw [blk_cell hh, Nat.zero_add]
    rw [← h4, List.getElem?_take] at hu
    split at hu
    · rw [Array.getElem?_toList] at hu; exact hu
    · cases hu
theorem ks_one {w : World} {A : Option Addr} {k : ByteArray} (h : Ks w A [k]) : ∃ ad, A = some ad ∧ w.cell? ad = some (.string k) := by
  obtain ⟨ad, rfl, hc⟩ := h.1 (by simp)
  refine ⟨ad, rfl, ?_⟩
  have := hc 0 k rfl
  rwa [show ad.add 0 = ad by unfold Addr.add; simp] at this
/-- Apply of the program's model, any request. -/
theorem papply (g b n : Nat) (f : ByteArray → Option Ent) (r : Rq) (A : Option Addr) (cap : Nat) (ks : List ByteArray) (now ver : Int) (w : World) (h : Md w g b n f) (hn : n < maxLen) (hks : Ks w A ks) (hl : ks.length ≤ 1000000) (ht : Pow w) (hd : r.data.size ≤ 140737488355328) (h0 : 0 ≤ r.delta) :
    Calls Tryd.prog 16 #[.pointer (some ⟨g, 0, none⟩), .agg (r.c (.slice A ks.length cap)), .int .i64 now, .int .i64 ver] w fun e w' => ∃ (A' : Option Addr) (cA b' : Nat), e = .returned (.agg ((outcome f r ks now ver).1.c A' cA)) ∧ Told w.heap.size w' A' (outcome f r ks now ver).1.L ∧
      Md w' g b' (n + 1) (outcome f r ks now ver).2 ∧ (b' = b ∨ w.heap.size ≤ b') ∧ Mod (fun q => q = g ∨ q = b) w w' := by
  unfold outcome
  by_cases h1 : r.verb = 1
  · rw [if_pos h1]
    refine (apply_get1 g b n f r A cap ks now ver w h hks hl h1).mono fun e w' ⟨v, he, ho, hb⟩ => ?_
    obtain ⟨A', cA, rfl, ha⟩ := arg_own ho rfl (Nat.le_trans (founds_le f ks now) (by omega))
    exact ⟨A', cA, b, he, ha, (h.below hb).grow (by omega), .inl rfl, Mod.of_below hb _⟩
  rw [if_neg h1]
  by_cases h2 : r.verb = 2
  · rw [if_pos h2]
    refine (apply_get2 g b n f r A cap ks now ver w h hks hl h2).mono fun e w' ⟨v, he, ho, hb⟩ => ?_
    obtain ⟨A', cA, rfl, ha⟩ := arg_own ho rfl (Nat.le_trans (founds_le f ks now) (by omega))
    exact ⟨A', cA, b, he, ha, (h.below hb).grow (by omega), .inl rfl, Mod.of_below hb _⟩
  rw [if_neg h2]
  by_cases h3 : r.verb = 13
  · rw [if_pos h3]
    exact (apply_flush g b n f r _ now ver w h h3).mono fun e w' ⟨he, b', hm, hb', hmod⟩ => ⟨none, 0, b', he, arg_none _ _, hm.grow (by omega), .inr hb', hmod.mono (fun q hq => .inl hq)⟩
  rw [if_neg h3]
  by_cases hL : ks.length = 1
  · obtain ⟨k, rfl⟩ : ∃ k, ks = [k] := List.length_eq_one_iff.1 hL
    obtain ⟨ad, rfl, hc⟩ := ks_one hks
    exact (apply_one g b n f r k ad cap now ver w h hn (hks.2 k (by simp)) hc ⟨h1, h2, h3⟩ ht hd h0).mono fun e w' ⟨he, hm, hmod⟩ => ⟨none, 0, b, he, arg_none _ _, hm, .inl rfl, hmod.mono (fun q hq => .inr hq)⟩
  · refine (apply_short g r A ks.length cap now ver w hL ⟨h1, h2, h3⟩).mono fun e w' ⟨he, hb⟩ => ?_
    rw [oneOut_short f r now ver ks hL]
    exact ⟨none, 0, b, he, arg_none _ _, (h.below hb).grow (by omega), .inl rfl, Mod.of_below hb _⟩
theorem next_key (r : Rq) (e : Ent) (there : Bool) (now ver : Int) : (nextOf r e there now ver).2.1.key = e.key := by
  unfold nextOf
  repeat' split
  all_goals rfl
theorem set_len (x : Ent) (L : List Ent) : (Rm.setL x L).length ≤ L.length + 1 := by
  unfold Rm.setL
  rw [List.length_append, List.length_cons, List.length_take, List.length_drop]
  have : (Rm.forgetL x.key L).length ≤ L.length := (List.eraseIdx_sublist _ _).length_le
  omega
theorem forget_len (k : ByteArray) (L : List Ent) : (Rm.forgetL k L).length ≤ L.length := (List.eraseIdx_sublist _ _).length_le
theorem rows_founds {f : ByteArray → Option Ent} {L : List Ent} (h : Rel f L) (ks : List ByteArray) (now : Int) : Rm.rows L ks now = founds f ks now := by
  unfold Rm.rows founds
  congr 1
  funext k
  exact (h.at_ k now).2
/-- One request of one key: the row goes as the map. -/
theorem one_step {f : ByteArray → Option Ent} {L : List Ent} (h : Rel f L) (r : Rq) (k : ByteArray) (now ver : Int) (hF : Fine r ((liveOf f k now).getD (keyEnt k))) :
    (Rm.rowTo L r k now ver).1 = (applyTo f r k now ver).1 ∧ Rel (applyTo f r k now ver).2 (Rm.rowTo L r k now ver).2 ∧ (Rm.rowTo L r k now ver).2.length ≤ L.length + 1 ∧ Rm.entOf L k now = (liveOf f k now).getD (keyEnt k) := by
  obtain ⟨g1, g2⟩ := h.at_ k now
  have hE : Rm.entOf L k now = (liveOf f k now).getD (keyEnt k) := by unfold Rm.entOf; rw [g2]; rfl
  have hkey : ((liveOf f k now).getD (keyEnt k)).key = k := by
    unfold liveOf
    cases hf : f k with
    | none => rfl
    | some e =>
      show ((if live e.dl now = true then some e else none).getD (keyEnt k)).key = k
      split
      · exact ((h.mem k e).1 hf).2
      · rfl
  have hx := next_key r ((liveOf f k now).getD (keyEnt k)) (liveOf f k now).isSome now ver
  have hkd := (next_fine r ((liveOf f k now).getD (keyEnt k)) (liveOf f k now).isSome now ver hF).2
  unfold Rm.rowTo applyTo
  rw [hE, g1]
  obtain ⟨⟨a, x, kp, dr⟩, hN⟩ : ∃ N, N = nextOf r ((liveOf f k now).getD (keyEnt k)) (liveOf f k now).isSome now ver := ⟨_, rfl⟩
  rw [← hN] at hx hkd ⊢
  simp only at hx hkd ⊢
  rw [hkey] at hx
  refine ⟨trivial, ?_, ?_, trivial⟩
  · cases kp
    · cases dr
      · exact h
      · exact h.drop k
    · have := h.keep x
      rw [hx] at this
      exact this
  · cases kp
    · cases dr
      · exact Nat.le_succ _
      · exact Nat.le_succ_of_le (forget_len k L)
    · exact set_len x L
/-- Apply of the document's model, any request. -/
theorem rapply (B m : Nat) (v : Value) (L : List Ent) (f : ByteArray → Option Ent) (r : Rq) (A : Option Addr) (cap : Nat) (ks : List ByteArray) (now ver : Int) (w : World) (h : Rm w B m v L) (hR : Rel f L) (hL : L.length < 1000000) (hks : Ks w A ks) (hl : ks.length ≤ 1000000) (hF : ∀ k, Fine r ((liveOf f k now).getD (keyEnt k))) :
    Calls Tryd.prog 32 #[.pointer (some ⟨m, 0, none⟩), .agg (r.c (.slice A ks.length cap)), .int .i64 now, .int .i64 ver] w fun e w' => ∃ (A' : Option Addr) (cA : Nat) (v' : Value) (L' : List Ent), e = .returned (.agg ((outcome f r ks now ver).1.c A' cA)) ∧ Told w.heap.size w' A' (outcome f r ks now ver).1.L ∧
      Rm w' B m v' L' ∧ Rel (outcome f r ks now ver).2 L' ∧ L'.length ≤ L.length + 1 ∧ Mod (fun q => q = m) w w' ∧ (∀ q, v'.ownBlock = some q → (v.ownBlock = some q ∨ w.heap.size ≤ q)) := by
  have hks2 : Rm.Ks w A ks := hks.1
  unfold outcome
  by_cases h1 : r.verb = 1
  · rw [if_pos h1, ← rows_founds hR]
    refine (Rm.rapply_get1 B m v L r A cap ks now ver w h (by omega) hks2 hl h1).mono fun e w' ⟨u, he, ho, hb⟩ => ?_
    obtain ⟨A', cA, rfl, ha⟩ := arg_own ho rfl (Nat.le_trans (Rm.rows_le L ks now) (by omega))
    exact ⟨A', cA, v, L, he, ha, h.below hb, hR, Nat.le_succ _, Mod.of_below hb _, fun q hq => .inl hq⟩
  rw [if_neg h1]
  by_cases h2 : r.verb = 2
  · rw [if_pos h2, ← rows_founds hR]
    refine (Rm.rapply_get2 B m v L r A cap ks now ver w h (by omega) hks2 hl h2).mono fun e w' ⟨u, he, ho, hb⟩ => ?_
    obtain ⟨A', cA, rfl, ha⟩ := arg_own ho rfl (Nat.le_trans (Rm.rows_le L ks now) (by omega))
    exact ⟨A', cA, v, L, he, ha, h.below hb, hR, Nat.le_succ _, Mod.of_below hb _, fun q hq => .inl hq⟩
  rw [if_neg h2]
  by_cases h3 : r.verb = 13
  · rw [if_pos h3]
    exact (rap_flush B m v L r _ now ver w h h3).mono fun e w' ⟨he, hm, hmod⟩ => ⟨none, 0, _, [], he, arg_none _ _, hm, Rel.start, Nat.zero_le _, hmod, fun q hq => by cases hq⟩
  rw [if_neg h3]
  by_cases hL1 : ks.length = 1
  · obtain ⟨k, rfl⟩ : ∃ k, ks = [k] := List.length_eq_one_iff.1 hL1
    obtain ⟨ad, rfl, hc⟩ := ks_one hks
    obtain ⟨s1, s2, s3, s4⟩ := one_step hR r k now ver (hF k)
    have hF2 := hF k
    rw [← s4] at hF2
    refine (Rm.rapply_one B m v L r k ad cap now ver w h hL hc ⟨h1, h2, h3⟩ hF2 (fun x hx e => key_eq (beq_iff_eq.1 e))).mono fun e w' ⟨he, v', hm, hmod, hq⟩ => ?_
    rw [s1] at he
    exact ⟨none, 0, v', _, he, arg_none _ _, hm, s2, s3, hmod, hq⟩
  · refine (rap_short m r A ks.length cap now ver w hL1 ⟨h1, h2, h3⟩).mono fun e w' ⟨he, hb⟩ => ?_
    rw [oneOut_short f r now ver ks hL1]
    exact ⟨none, 0, v, L, he, arg_none _ _, h.below hb, hR, Nat.le_succ _, Mod.of_below hb _, fun q hq => .inl hq⟩
end Go.Proofs.YtepklobkppdliaaDoor.Mp
