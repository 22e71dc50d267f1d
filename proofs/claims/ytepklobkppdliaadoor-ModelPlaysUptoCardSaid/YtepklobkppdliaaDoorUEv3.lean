/- Regions that draw their order: blocks that are made in any order; one block written whole beside calls. No Go in it. -/
import Derived.Test.YtepklobkppdliaaDoorUAa
namespace Go.Proofs.YtepklobkppdliaaDoor.Ev
open Go.RowKit Go.Proofs.YtepklobkppdliaaDoorW.PrintWords Go.Proofs.YtepklobkppdliaaDoorW.PrintLast Go.Proofs.YtepklobkppdliaaDoor.Lib
section
variable {P : Program} {ops : Array Oper} {md : Region.Mode}
/-- What an operation waits for stands ahead of it in the text. -/
def early (md : Region.Mode) (ops : Array Oper) : Bool := (List.range ops.size).all fun i => match ops[i]? with
  | some o => o.after.all fun e => !Region.binds md e || decide (e.on < i)
  | none => true
theorem early_spec (h : early md ops = true) {i : Nat} {o : Oper} (hi : ops[i]? = some o) : ∀ e ∈ o.after, Region.binds md e = true → e.on < i := by
  intro e he hb
  unfold early at h
  have h1 := List.all_eq_true.1 h i (List.mem_range.2 (Array.getElem?_eq_some_iff.1 hi).1)
  rw [hi] at h1
  have h2 := Array.all_eq_true_iff_forall_mem.1 h1 e he
  rw [hb] at h2
  simpa using h2
theorem least_open {S : Array Bool} (h : 0 < open_ S) : ∃ i, i < S.size ∧ S.getD i true = false ∧ ∀ j, j < i → S.getD j false = true := by
  have h1 : ∃ i, i < S.size ∧ S.getD i true = false := by
    obtain ⟨i, hi, e⟩ := List.mem_iff_getElem.1 (List.count_pos_iff.1 h)
    have hi' : i < S.size := by simpa using hi
    refine ⟨i, hi', ?_⟩
    rw [Array.getD_eq_getD_getElem?, Array.getElem?_eq_getElem hi']
    simpa using e
  obtain ⟨i, h2⟩ := h1
  induction i using Nat.strongRecOn with
  | _ i ih =>
    by_cases hall : ∀ j, j < i → S.getD j false = true
    · exact ⟨i, h2.1, h2.2, hall⟩
    · obtain ⟨j, hj⟩ := Classical.not_forall.1 hall
      obtain ⟨hj1, hj2⟩ := Classical.not_imp.1 hj
      refine ih j hj1 ⟨by omega, ?_⟩
      have hjs : j < S.size := by omega
      rw [Array.getD_eq_getD_getElem?, Array.getElem?_eq_getElem hjs] at hj2 ⊢
      simpa using hj2
/-- An operation keeps what is told of frame and world. -/
def Step (P : Program) (ops : Array Oper) (C : Array Bool → Act → World → Prop) (Q' : Exit → Act → World → Prop) (k : Nat) (o : Oper) : Prop :=
  ∀ S a w, S.size = ops.size → S.getD k true = false → Deps .any o S → C S a w →
    if Region.wanted o (yielded ops a.tmps) = true then Oper.wp P o a w (C (S.setIfInBounds k true)) Q' else C (S.setIfInBounds k true) (a.put o.dst undef) w
def Steps (P : Program) (ops : Array Oper) (C : Array Bool → Act → World → Prop) (Q' : Exit → Act → World → Prop) : Nat → List Oper → Prop
  | _, [] => True
  | k, o :: rest => Step P ops C Q' k o ∧ Steps P ops C Q' (k + 1) rest
theorem steps_at {C : Array Bool → Act → World → Prop} {Q' : Exit → Act → World → Prop} : ∀ (l : List Oper) (k : Nat), Steps P ops C Q' k l → ∀ i o, l[i]? = some o → Step P ops C Q' (k + i) o
  | [], _, _, i, o, h => by simp at h
  | x :: l, k, h, 0, o, ho => by
    simp only [List.getElem?_cons_zero, Option.some.injEq] at ho
    subst ho
    exact h.1
  | x :: l, k, h, i + 1, o, ho => by
    have := steps_at l (k + 1) h.2 i o (by simpa using ho)
    rwa [show k + (i + 1) = k + 1 + i by omega]
theorem wpAny_of_steps {C : Array Bool → Act → World → Prop} {Q' : Exit → Act → World → Prop} (hE : early .any ops = true) (hs : Steps P ops C Q' 0 ops.toList) (he : ∀ a w, C (Array.replicate ops.size true) a w → Q' .normal a w) :
    ∀ (fuel : Nat) (S : Array Bool) (a : Act) (w : World), S.size = ops.size → open_ S = fuel → C S a w → wpAny P .any ops Q' fuel S a w
  | 0, S, a, w, hz, ho, hC => by
    have hS := all_done ho
    refine ⟨?_, he a w (by rw [← hz, ← hS]; exact hC)⟩
    rw [List.eq_nil_iff_forall_not_mem]
    intro i hi
    have h1 := (mem_ready.1 hi).1
    rw [hS, Array.getD_eq_getD_getElem?, Array.getElem?_replicate] at h1
    split at h1 <;> cases h1
  | fuel + 1, S, a, w, hz, ho, hC => by
    refine ⟨fun h0 => ?_, fun i hi => ?_⟩
    · exfalso
      obtain ⟨i, hi, h1, h2⟩ := least_open (S := S) (by omega)
      have hio : ops[i]? = some ops[i] := Array.getElem?_eq_getElem (by omega)
      have : i ∈ Region.ready .any ops S := mem_ready.2 ⟨h1, _, hio, fun e he hb => h2 _ (early_spec hE hio e he hb)⟩
      rw [h0] at this
      cases this
    · obtain ⟨h1, o, h2, h3⟩ := mem_ready.1 hi
      have hst := steps_at ops.toList 0 hs i o (by simpa using h2)
      rw [Nat.zero_add] at hst
      have h4 := hst S a w hz h1 h3 hC
      have hz' : (S.setIfInBounds i true).size = ops.size := by simpa using hz
      have ho' : open_ (S.setIfInBounds i true) = fuel := by have := open_set h1; omega
      unfold wpOp
      simp only [h2]
      split
      · rename_i hw
      
        rw [if_pos hw] at h4
        exact .inl (Oper.wp_mono (fun a' w' hc => wpAny_of_steps hE hs he fuel _ a' w' hz' ho' hc) h4)
      · rename_i hw
        rw [if_neg hw] at h4
        exact wpAny_of_steps hE hs he fuel _ _ w hz' ho' h4
/-- A region that draws its order, by what holds of frame and world throughout. -/
theorem region_inv {id : Nat} {Q' : Exit → Act → World → Prop} {a : Act} {w : World} (C : Array Bool → Act → World → Prop) (hm : P.follows .mixedOrders = true) (hE : early .any ops = true) (hC : C (Array.replicate ops.size false) a w.drew)
    (hs : Steps P ops C Q' 0 ops.toList) (he : ∀ a w, C (Array.replicate ops.size true) a w → Q' .normal a w) : (Code.region id ops true).wp P Q' a w :=
  wp_region_any hm (wpAny_of_steps hE hs he _ _ _ _ (by simp) (by unfold open_; simp) hC)
/-- The frame when the operations of S are done. -/
def puts : Nat → List (Option Tmp × Value) → Array Bool → Act → Act
  | _, [], _, a => a
  | i, (t, v) :: l, S, a => puts (i + 1) l S (if S.getD i false = true then a.put t v else a)
theorem puts_none {n : Nat} (a : Act) : ∀ (l : List (Option Tmp × Value)) (i : Nat), puts i l (Array.replicate n false) a = a
  | [], _ => rfl
  | (t, v) :: l, i => by
    have : ¬ (Array.replicate n false).getD i false = true := fun h => by
      rw [Array.getD_eq_getD_getElem?, Array.getElem?_replicate] at h
      split at h <;> cases h
    unfold puts
    rw [if_neg this]
    exact puts_none a l (i + 1)
/-- They are all done. -/
def putAll : List (Option Tmp × Value) → Act → Act
  | [], a => a
  | (t, v) :: l, a => putAll l (a.put t v)
theorem puts_all {n : Nat} : ∀ (l : List (Option Tmp × Value)) (i : Nat) (a : Act), i + l.length ≤ n → puts i l (Array.replicate n true) a = putAll l a
  | [], _, _, _ => rfl
  | (t, v) :: l, i, a, h => by
    have : (Array.replicate n true).getD i false = true := by
      rw [Array.getD_eq_getD_getElem?, Array.getElem?_replicate, if_pos (by simp at h; omega)]
      rfl
    unfold puts
    rw [if_pos this]
    exact puts_all l (i + 1) _ (by simp at h ⊢; omega)
def offDst (t : Option Tmp) (l : List (Option Tmp × Value)) : Bool := match t with
  | none => true
  | some d => l.all fun p => p.1 != some d
theorem puts_put : ∀ (l : List (Option Tmp × Value)) (i : Nat) (S : Array Bool) (a : Act) (t : Option Tmp) (v : Value), offDst t l = true → puts i l S (a.put t v) = (puts i l S a).put t v
  | [], _, _, _, _, _, _ => rfl
  | (t', v') :: l, i, S, a, t, v, h => by
    have h1 : offDst t l = true ∧ ∀ d, t' = some d → t ≠ some d := by
      unfold offDst at h ⊢
      cases t with
      | none => exact ⟨rfl, fun d _ h => by cases h⟩
      | some d =>
        simp only [List.all_cons, Bool.and_eq_true, bne_iff_ne, ne_eq] at h
        exact ⟨h.2, fun d' e e2 => h.1 (e.trans e2.symm)⟩
    unfold puts
    rw [← puts_put l (i + 1) S _ t v h1.1]
    congr 1
    split
    · exact (Act.put_comm a v' v h1.2).symm
    · rfl
theorem puts_set : ∀ (l : List (Option Tmp × Value)) (i k : Nat) (S : Array Bool) (a : Act) (t : Option Tmp) (v : Value), S.getD (i + k) true = false → l[k]? = some (t, v) → offDst t (l.drop (k + 1)) = true → puts i l (S.setIfInBounds (i + k) true) a = (puts i l S a).put t v
  | [], _, _, _, _, _, _, _, h, _ => by simp at h
  | (t', v') :: l, i, 0, S, a, t, v, h0, h, ho => by
    simp only [List.getElem?_cons_zero, Option.some.injEq, Prod.mk.injEq] at h
    obtain ⟨rfl, rfl⟩ := h
    simp only [Nat.add_zero] at h0 ⊢
    unfold puts
    rw [if_pos (set_same h0), if_neg (by rw [get_false h0]; decide)]
    have hrest : ∀ (l : List (Option Tmp × Value)) (j : Nat) (a : Act), i < j → puts j l (S.setIfInBounds i true) a = puts j l S a := by
      intro l
      induction l with
      | nil => intro j a _; rfl
      | cons x l ih =>
        intro j a hj
        obtain ⟨x1, x2⟩ := x
        unfold puts
        rw [set_other (by omega)]
        exact ih (j + 1) _ (by omega)
    rw [hrest l (i + 1) _ (by omega)]
    exact puts_put l (i + 1) S a _ _ (by simpa using ho)
  | (t', v') :: l, i, k + 1, S, a, t, v, h0, h, ho => by
    have := puts_set l (i + 1) k S (if S.getD i false = true then a.put t' v' else a) t v (by rwa [show i + 1 + k = i + (k + 1) by omega]) (by simpa using h) (by simpa using ho)
    unfold puts
    rw [set_other (by omega), show i + (k + 1) = i + 1 + k by omega]
    exact this
theorem put_getD_ne (a : Act) {t : Option Tmp} {u : Tmp} (v : Value) (h : t ≠ some u) : (a.put t v).tmps.getD u undef = a.tmps.getD u undef := by
  cases t with
  | none => rfl
  | some d =>
    show (a.tmps.setIfInBounds d v).getD u undef = _
    rw [Array.getD_eq_getD_getElem?, Array.getElem?_setIfInBounds_ne (fun e => h (by rw [e])), ← Array.getD_eq_getD_getElem?]
theorem put_getD_eq (a : Act) {u : Tmp} (v : Value) (h : u < a.tmps.size) : (a.put (some u) v).tmps.getD u undef = v := by
  show (a.tmps.setIfInBounds u v).getD u undef = v
  rw [Array.getD_eq_getD_getElem?, Array.getElem?_setIfInBounds_self, if_pos h]
  rfl
theorem puts_off : ∀ (l : List (Option Tmp × Value)) (i : Nat) (S : Array Bool) (a : Act) (u : Tmp), offDst (some u) l = true → (puts i l S a).tmps.getD u undef = a.tmps.getD u undef
  | [], _, _, _, _, _ => rfl
  | (t, v) :: l, i, S, a, u, h => by
    simp only [offDst, List.all_cons, Bool.and_eq_true, bne_iff_ne, ne_eq] at h
    unfold puts
    rw [puts_off l (i + 1) S _ u (by simpa [offDst] using h.2)]
    split
    · exact put_getD_ne a v h.1
    · rfl
theorem puts_size : ∀ (l : List (Option Tmp × Value)) (i : Nat) (S : Array Bool) (a : Act), (puts i l S a).tmps.size = a.tmps.size
  | [], _, _, _ => rfl
  | (t, v) :: l, i, S, a => by
    unfold puts
    rw [puts_size l (i + 1) S _]
    split
    · cases t with
      | none => rfl
      | some d => show (a.tmps.setIfInBounds d v).size = _; simp
    · rfl
/-- What a done operation has yielded. -/
theorem puts_done : ∀ (l : List (Option Tmp × Value)) (i k : Nat) (S : Array Bool) (a : Act) (u : Tmp) (v : Value), S.getD (i + k) false = true → l[k]? = some (some u, v) → offDst (some u) (l.drop (k + 1)) = true → u < a.tmps.size → (puts i l S a).tmps.getD u undef = v
  | [], _, _, _, _, _, _, _, h, _, _ => by simp at h
  | (t', v') :: l, i, 0, S, a, u, v, h0, h, ho, hu => by
    simp only [List.getElem?_cons_zero, Option.some.injEq, Prod.mk.injEq] at h
    obtain ⟨rfl, rfl⟩ := h
    unfold puts
    rw [Nat.add_zero] at h0
    rw [puts_off l (i + 1) S _ u (by simpa using ho), if_pos h0]
    exact put_getD_eq a v' hu
  | (t', v') :: l, i, k + 1, S, a, u, v, h0, h, ho, hu => by
    unfold puts
    refine puts_done l (i + 1) k S _ u v (by rwa [show i + 1 + k = i + (k + 1) by omega]) (by simpa using h) (by simpa using ho) ?_
    split
    · cases t' with
      | none => exact hu
      | some d => show u < (a.tmps.setIfInBounds d v').size; simpa using hu
    · exact hu
/-- The frame hangs on the values of what is done alone. -/
theorem puts_congr : ∀ (l l' : List (Option Tmp × Value)) (i k : Nat) (S : Array Bool) (a : Act), S.getD (i + k) false = false → l.length = l'.length → (∀ j, j ≠ k → l[j]? = l'[j]?) → puts i l S a = puts i l' S a
  | [], [], _, _, _, _, _, _, _ => rfl
  | [], _ :: _, _, _, _, _, _, h, _ => by simp at h
  | _ :: _, [], _, _, _, _, _, h, _ => by simp at h
  | (t, v) :: l, (t', v') :: l', i, 0, S, a, h0, hl, h => by
    rw [Nat.add_zero] at h0
    have e : l = l' := by
      apply List.ext_getElem?
      intro j
      have := h (j + 1) (by omega)
      simpa using this
    subst e
    unfold puts
    rw [if_neg (by rw [h0]; decide), if_neg (by rw [h0]; decide)]
  | (t, v) :: l, (t', v') :: l', i, k + 1, S, a, h0, hl, h => by
    have h1 := h 0 (by omega)
    simp only [List.getElem?_cons_zero, Option.some.injEq, Prod.mk.injEq] at h1
    obtain ⟨rfl, rfl⟩ := h1
    unfold puts
    exact puts_congr l l' (i + 1) k S _ (by rwa [show i + 1 + k = i + (k + 1) by omega]) (by simpa using hl) (fun j hj => by have := h (j + 1) (by omega); simpa using this)
/-- What an operation reads of the region's own slots is there when it comes up. -/
def readsOk (ops : Array Oper) (o : Oper) : Bool := o.op.operands.toList.all fun x => match x with
  | .tmp u => (ops.toList.all fun o' => o'.dst != some u) || (o.after.toList.any fun e => Region.binds .any e && (match ops[e.on]? with | some o' => o'.dst == some u | none => false))
  | _ => true
/-- Values of the operations, laid beside them. -/
structure Fit {Γ : Type} (ops : Array Oper) (l : Γ → List (Option Tmp × Value)) (a0 : Act) : Prop where
  dst : ∀ γ, (l γ).map (·.1) = ops.toList.map (·.dst)
  nd : (ops.toList.filterMap (·.dst)).Nodup
  lt : (ops.toList.filterMap (·.dst)).all (fun u => decide (u < a0.tmps.size)) = true
theorem off_of_none {l : List (Option Tmp × Value)} {d : List (Option Tmp)} (h : l.map (·.1) = d) {u : Tmp} (hn : ∀ x ∈ d, x ≠ some u) : offDst (some u) l = true := by
  unfold offDst
  rw [List.all_eq_true]
  intro p hp
  rw [bne_iff_ne]
  exact hn _ (by rw [← h]; exact List.mem_map_of_mem hp)
theorem nodup_off : ∀ (d : List (Option Tmp)) (k : Nat) (u : Tmp), (d.filterMap id).Nodup → d[k]? = some (some u) → ∀ x ∈ d.drop (k + 1), x ≠ some u
  | [], _, _, _, h, _, _ => by simp at h
  | y :: d, 0, u, hd, h, x, hx => by
    simp only [List.getElem?_cons_zero, Option.some.injEq] at h
    subst h
    simp only [List.filterMap_cons, id] at hd
    intro e
    subst e
    have h1 := (List.nodup_cons.1 hd).1
    exact h1 (List.mem_filterMap.2 ⟨some u, by simpa using hx, rfl⟩)
  | y :: d, k + 1, u, hd, h, x, hx => by
    refine nodup_off d k u ?_ (by simpa using h) x (by simpa using hx)
    cases y with
    | none => simpa using hd
    | some q => exact (List.nodup_cons.1 (by simpa using hd)).2
theorem Fit.off {Γ : Type} {l : Γ → List (Option Tmp × Value)} {a0 : Act} (hF : Fit ops l a0) (γ : Γ) {k : Nat} {o : Oper} (hk : ops[k]? = some o) : offDst o.dst ((l γ).drop (k + 1)) = true := by
  cases ho : o.dst with
  | none => rfl
  | some u =>
    refine off_of_none (d := (ops.toList.map (·.dst)).drop (k + 1)) (by rw [← hF.dst γ, List.map_drop]) (nodup_off _ k u ?_ ?_)
    · have := hF.nd
      rwa [List.filterMap_map]
    · rw [List.getElem?_map, Array.getElem?_toList, hk, Option.map_some, ho]
theorem Fit.eval {Γ : Type} {l : Γ → List (Option Tmp × Value)} {a0 : Act} (hF : Fit ops l a0) (γ : Γ) {o : Oper} {S : Array Bool} (hr : readsOk ops o = true) (hd : Deps .any o S) (x : Operand) (hx : x ∈ o.op.operands) : (puts 0 (l γ) S a0).eval x = (putAll (l γ) a0).eval x := by
  have hlen : (l γ).length = ops.size := by
    have := congrArg List.length (hF.dst γ)
    simpa using this
  have hall := puts_all (n := ops.size) (l γ) 0 a0 (by omega)
  rw [← hall]
  cases x with
  | tmp u =>
    have h1 := List.all_eq_true.1 hr _ (Array.mem_toList_iff.2 hx)
    show (puts 0 (l γ) S a0).tmps.getD u undef = (puts 0 (l γ) (Array.replicate ops.size true) a0).tmps.getD u undef
    simp only [Bool.or_eq_true] at h1
    rcases h1 with h1 | h1
    · have hoff : offDst (some u) (l γ) = true := off_of_none (hF.dst γ) (fun y hy => by
        obtain ⟨o', ho', e⟩ := List.mem_map.1 hy
        have := List.all_eq_true.1 h1 o' ho'
        rw [bne_iff_ne] at this
        rw [← e]
        exact this)
      rw [puts_off _ _ _ _ _ hoff, puts_off _ _ _ _ _ hoff]
    · obtain ⟨e, he, h2⟩ := List.any_eq_true.1 h1
      rw [Bool.and_eq_true] at h2
      obtain ⟨hb, h3⟩ := h2
      cases ho : ops[e.on]? with
      | none => rw [ho] at h3; cases h3
      | some o' =>
        rw [ho] at h3
        have h4 : o'.dst = some u := by simpa using h3
        have hlt : e.on < ops.size := (Array.getElem?_eq_some_iff.1 ho).1
        have hS := hd e (Array.mem_toList_iff.1 he) hb
        obtain ⟨⟨t, v⟩, hv⟩ : ∃ p, (l γ)[e.on]? = some p := ⟨_, List.getElem?_eq_getElem (by omega)⟩
        have ht : t = some u := by
          have h5 := congrArg (·[e.on]?) (hF.dst γ)
          simp only [List.getElem?_map, hv, Option.map_some, Array.getElem?_toList, ho, Option.some.injEq] at h5
          rw [h5, h4]
        subst ht
        have hoff := hF.off γ ho
        rw [h4] at hoff
        have hu : u < a0.tmps.size := of_decide_eq_true (List.all_eq_true.1 hF.lt u (List.mem_filterMap.2 ⟨o', Array.mem_toList_iff.2 (Array.mem_of_getElem? ho), h4⟩))
        rw [puts_done (l γ) 0 e.on S a0 u v (by rwa [Nat.zero_add]) hv hoff hu, puts_done (l γ) 0 e.on _ a0 u v (by rw [Nat.zero_add, Array.getD_eq_getD_getElem?, Array.getElem?_replicate, if_pos hlt]; rfl) hv hoff hu]
  | _ => rfl
/-- Frame and world while a region is under way: what the operations yield hangs on what was not known ahead (γ: where blocks came to lie). -/
def Gh {Γ : Type} (l : Γ → List (Option Tmp × Value)) (a0 : Act) (I : Γ → Array Bool → World → Prop) (S : Array Bool) (a : Act) (w : World) : Prop := ∃ γ, a = puts 0 (l γ) S a0 ∧ I γ S w
section
variable {Γ : Type} {l : Γ → List (Option Tmp × Value)} {a0 : Act} {I : Γ → Array Bool → World → Prop} {Q' : Exit → Act → World → Prop} {o : Oper} {k : Nat}
def GhUpon (P : Program) (D : Value → World → Prop) : Result Next → Prop
  | .ok (.value u) w' => D u w'
  | .ok .skip w' => D undef w'
  | .ok (.enter f args) w' => Calls P f args w' (fun e w'' => ∃ v, e = .returned v ∧ D v w'')
  | _ => False
theorem gh_step (hF : Fit ops l a0) (hk : ops[k]? = some o) (hg : o.guard = none) (hr : readsOk ops o = true) (hsel : ∀ cs b, o.op ≠ .select cs b)
    (h : ∀ γ S w, S.getD k true = false → Deps .any o S → I γ S w → GhUpon P (fun v w' => ∃ γ', (l γ')[k]? = some (o.dst, v) ∧ (∀ j, j ≠ k → (l γ')[j]? = (l γ)[j]?) ∧ I γ' (S.setIfInBounds k true) w') ((execOp (putAll (l γ) a0).eval o).run P w)) :
    Step P ops (Gh l a0 I) Q' k o := by
  intro S a w hz h0 hd hC
  rw [if_pos (by unfold Region.wanted; rw [hg])]
  obtain ⟨γ, e, hI⟩ := hC
  subst e
  have h1 := h γ S w h0 hd hI
  rw [← execOp_congr o hsel (fun x hx => hF.eval γ hr hd x hx)] at h1
  have key : ∀ v w', (∃ γ', (l γ')[k]? = some (o.dst, v) ∧ (∀ j, j ≠ k → (l γ')[j]? = (l γ)[j]?) ∧ I γ' (S.setIfInBounds k true) w') → Gh l a0 I (S.setIfInBounds k true) ((puts 0 (l γ) S a0).put o.dst v) w' := by
    intro v w' ⟨γ', h2, h3, h4⟩
    have hlen : (l γ).length = (l γ').length := by
      have e1 := congrArg List.length (hF.dst γ)
      have e2 := congrArg List.length (hF.dst γ')
      simp only [List.length_map] at e1 e2
      omega
    refine ⟨γ', ?_, h4⟩
    have hs := puts_set (l γ') 0 k S a0 o.dst v (by rwa [Nat.zero_add]) h2 (hF.off γ' hk)
    rw [Nat.zero_add] at hs
    rw [hs, puts_congr (l γ) (l γ') 0 k S a0 (by rw [Nat.zero_add]; exact get_false h0) hlen (fun j hj => (h3 j hj).symm)]
  unfold Oper.wp
  generalize (execOp (puts 0 (l γ) S a0).eval o).run P w = r at h1 ⊢
  cases r with
  | ok n w' =>
    cases n <;> simp only [GhUpon] at h1 <;> simp only [Oper.upon]
    case value u => exact key _ _ h1
    case skip => exact key _ _ h1
    case enter f args =>
      refine h1.mono fun e w'' ⟨v, he, hD⟩ => ?_
      subst he
      exact key _ _ hD
  | halt x w' => simp only [GhUpon] at h1
/-- An operation that computes or reads. -/
theorem gh_val (hF : Fit ops l a0) (hk : ops[k]? = some o) (hg : o.guard = none) (hr : readsOk ops o = true) (hsel : ∀ cs b, o.op ≠ .select cs b) (v : Γ → Value) (hv : ∀ γ, (l γ)[k]? = some (o.dst, v γ)) (hI : ∀ γ S w, I γ S w → I γ (S.setIfInBounds k true) w)
    (hrun : ∀ γ S w, I γ S w → (execOp (putAll (l γ) a0).eval o).run P w = .ok (.value (v γ)) w) : Step P ops (Gh l a0 I) Q' k o :=
  gh_step hF hk hg hr hsel fun γ S w _ _ hi => by
    rw [hrun γ S w hi]
    exact ⟨γ, hv γ, fun _ _ => rfl, hI γ S w hi⟩
theorem gh_start {n : Nat} {w : World} (γ : Γ) (h : I γ (Array.replicate n false) w) : Gh l a0 I (Array.replicate n false) a0 w := ⟨γ, (puts_none a0 _ 0).symm, h⟩
theorem gh_end {a : Act} {w : World} (hF : Fit ops l a0) (h : Gh l a0 I (Array.replicate ops.size true) a w) : ∃ γ, a = putAll (l γ) a0 ∧ I γ (Array.replicate ops.size true) w := by
  obtain ⟨γ, e, hI⟩ := h
  have hlen : (l γ).length = ops.size := by
    have := congrArg List.length (hF.dst γ)
    simpa using this
  exact ⟨γ, e.trans (puts_all _ 0 a0 (by omega)), hI⟩
end
/-- A region that draws its order, by frame and world throughout. -/
theorem region_gh {Γ : Type} {id : Nat} {Q' : Exit → Act → World → Prop} {a : Act} {w : World} {lst : List Oper} (l : Γ → List (Option Tmp × Value)) (I : Γ → Array Bool → World → Prop) (γ0 : Γ) (hm : P.follows .mixedOrders = true) (hE : early .any lst.toArray = true) (hF : Fit lst.toArray l a) (hC : I γ0 (Array.replicate lst.length false) w.drew)
    (hs : Fit lst.toArray l a → Steps P lst.toArray (Gh l a I) Q' 0 lst) (he : ∀ γ w, I γ (Array.replicate lst.length true) w → Q' .normal (putAll (l γ) a) w) : (Code.region id lst.toArray true).wp P Q' a w :=
  region_inv (Gh l a I) hm hE (gh_start γ0 (by simpa using hC)) (hs hF) (fun a' w' h => by
    obtain ⟨γ, e, hI⟩ := gh_end hF h
    subst e
    exact he γ w' (by simpa using hI))
theorem steps_cons {C : Array Bool → Act → World → Prop} {Q' : Exit → Act → World → Prop} {k : Nat} {o : Oper} {rest : List Oper} (h : Step P ops C Q' k o) (hr : Steps P ops C Q' (k + 1) rest) : Steps P ops C Q' k (o :: rest) := ⟨h, hr⟩
theorem steps_nil {C : Array Bool → Act → World → Prop} {Q' : Exit → Act → World → Prop} {k : Nat} : Steps P ops C Q' k [] := trivial
/-- An operation that looks at one operand. -/
theorem run_via {o : Oper} {a : Act} {w : World} {x : Operand} {v : Value} {r : Result Next} (ho : o.op.operands = #[x]) (hsel : ∀ cs b, o.op ≠ .select cs b) (hx : a.eval x = v) (h : (execOp (fun _ => v) o).run P w = r) : (execOp a.eval o).run P w = r := by
  rw [execOp_congr (ρ' := fun _ => v) o hsel (fun y hy => by rw [ho] at hy; simp at hy; rw [hy]; exact hx)]
  exact h
/-- A block that is made by ia and written by ib. -/
def Made (W : World) (t : TypeId) (n : Nat) (X : Array Value) (ia ib g : Nat) (S : Array Bool) (w : World) : Prop :=
  (S.getD ib false = true → S.getD ia false = true) ∧ (S.getD ia false = true → W.heap.size ≤ g ∧ ∃ cs, w.heap[g]? = some (.cells cs t (0, 0)) ∧ cs.size = n ∧ (S.getD ib false = true → cs = X))
section
variable {W : World} {a0 : Act} {l : Nat × Nat → List (Option Tmp × Value)} {t1 n1 : Nat} {X1 : Array Value} {ia1 ib1 : Nat} {t2 n2 : Nat} {X2 : Array Value} {ia2 ib2 : Nat} {Q' : Exit → Act → World → Prop} {o : Oper} {k : Nat}
theorem not_repl {n i : Nat} : ¬ (Array.replicate n false).getD i false = true := fun h => by
  rw [Array.getD_eq_getD_getElem?, Array.getElem?_replicate] at h
  split at h <;> cases h
theorem repl_at {n i : Nat} (hi : i < n) : (Array.replicate n true).getD i false = true := by
  rw [Array.getD_eq_getD_getElem?, Array.getElem?_replicate, if_pos hi]
  rfl
theorem Made.below {t n : Nat} {X : Array Value} {ia ib g : Nat} {S : Array Bool} {w w' : World} (h : Made W t n X ia ib g S w) (hb : Below w.heap.size w w') {i : Nat} (h1 : i ≠ ia) (h2 : i ≠ ib) : Made W t n X ia ib g (S.setIfInBounds i true) w' := by
  unfold Made
  rw [set_other h1, set_other h2]
  refine ⟨h.1, fun hi => ?_⟩
  obtain ⟨h3, cs, h4, h5, h6⟩ := h.2 hi
  exact ⟨h3, cs, (hb.block _ (blk_lt h4)).trans h4, h5, h6⟩
theorem Made.new {t n : Nat} {X z : Array Value} {ia ib g : Nat} {S : Array Bool} {w : World} (h : Made W t n X ia ib g S w) (h0 : S.getD ia true = false) (h2 : ia ≠ ib) (hW : W.heap.size ≤ w.heap.size) (hz : z.size = n) : Made W t n X ia ib w.heap.size (S.setIfInBounds ia true) (w.alloc (.cells z t)) := by
  refine ⟨fun _ => set_same h0, fun _ => ⟨hW, z, blk_new w _, hz, fun h3 => ?_⟩⟩
  rw [set_other h2] at h3
  have := h.1 h3
  rw [get_false h0] at this
  cases this
theorem Made.apart {t n : Nat} {X : Array Value} {ia ib g : Nat} {S : Array Bool} {w w1 : World} (h : Made W t n X ia ib g S w) {i g' t' : Nat} {cs' : Array Value} (h1 : i ≠ ia) (h2 : i ≠ ib) (hm : Mod (fun q => q = g') w w1) (hg' : w.heap[g']? = some (.cells cs' t' (0, 0))) (hne : t ≠ t') : Made W t n X ia ib g (S.setIfInBounds i true) w1 := by
  unfold Made
  rw [set_other h1, set_other h2]
  refine ⟨h.1, fun hi => ?_⟩
  obtain ⟨a1, c1, b1, d1⟩ := h.2 hi
  exact ⟨a1, c1, hm.blk b1 (fun e => by rw [e, hg'] at b1; injection b1 with b1; injection b1 with _ b1; exact hne b1.symm), d1⟩
end
end
section
variable {P : Program} {ops : Array Oper} {md : Region.Mode} {o : Oper} {a : Act} {W : World} {g : Nat} {t : TypeId} {c X : Array Value} {i0 : Nat}
end
section
variable {P : Program} {ops : Array Oper} {md : Region.Mode} {C : Array Bool → World → Prop} {Q : Act → Prop} {o : Oper} {a : Act} {rest : List Oper} {k : Nat}
end
section
variable {P : Program} {ops : Array Oper} {md : Region.Mode} {o : Oper} {a : Act} {W : World} {g : Nat} {t : TypeId} {f : Bool → Bool → Array Value} {i1 i2 : Nat}
end
end Go.Proofs.YtepklobkppdliaaDoor.Ev
