/- Contracts of package net: what each method of a Net does to its frames. -/
import Derived.Test.YtiifekdcikcgpaaLib
import Derived.Outline
namespace Go.Proofs.Ytiifekdcikcgpaa.Net
open Go.RowKit Go.Proofs.YtiifekdcikcgpaaW.PrintWords Go.Proofs.YtiifekdcikcgpaaW.PrintLast Go.Proofs.Ytiifekdcikcgpaa.Lib

/-- A frame. -/
structure Fr where
  f0 : Int
  f1 : Int
  f2 : Int
  f3 : Int
  f4 : Int
  f5 : Int
  f6 : ByteArray
  f7 : Int
  f8 : ByteArray
def z : Fr := ⟨0, 0, 0, 0, 0, 0, ⟨#[]⟩, 0, ⟨#[]⟩⟩
def cl (x : Fr) : List Value := [.int .i64 x.f0, .int .i64 x.f1, .int .i64 x.f2, .int .i64 x.f3, .int .i64 x.f4, .int .i64 x.f5, .string x.f6, .int .i64 x.f7, .string x.f8]
def cls (xs : List Fr) : List Value := xs.flatMap cl
theorem cl_length (x : Fr) : (cl x).length = 9 := rfl
theorem cl_one (x : Fr) : ∀ u ∈ cl x, u.oneCell' = true := by
  intro u hu
  simp only [cl, List.mem_cons, List.not_mem_nil, or_false] at hu
  rcases hu with rfl | rfl | rfl | rfl | rfl | rfl | rfl | rfl | rfl <;> rfl
theorem cls_length (xs : List Fr) : (cls xs).length = xs.length * 9 := by
  induction xs with
  | nil => rfl
  | cons x xs ih => simp only [cls, List.flatMap_cons, List.length_append, List.length_cons, cl_length] at ih ⊢; omega
theorem cls_append (xs ys : List Fr) : cls (xs ++ ys) = cls xs ++ cls ys := by simp [cls]
theorem cls_one (xs : List Fr) : ∀ u ∈ cls xs, u.oneCell' = true := by
  intro u hu
  obtain ⟨x, _, h⟩ := List.mem_flatMap.1 hu
  exact cl_one x u h
theorem Try.info32 : (Try.prog.info? 32).map (fun i => (i.zero, i.size, i.bytes)) = some (some (.agg (cl z).toArray), 9, 88) := by kernel_rfl

/-- A Net at block g whose frames are xs; v: its slice. -/
structure Is (w : World) (B g : Nat) (v : Value) (xs : List Fr) : Prop where
  blk : w.heap[g]? = some (.cells #[v] 55 (0, 0))
  ge : B ≤ g
  row : w.ownsRow B 32 9 v xs.length (cls xs)
end Go.Proofs.Ytiifekdcikcgpaa.Net
