/-
  '==' OF TWO CAPS.
-/
import Derived.Test.YthappdipoofclaaDoorCap
import Derived.Laws.StructEq
namespace Go.Proofs.YthappdipoofclaaDoor
set_option linter.unusedSimpArgs false
set_option linter.unusedVariables false
open Go.RowKit
theorem part1 (t off : Nat) (xs : Array Value) (v : Value) (W : World) (ha : ∀ w, (isAgg t).run Tryd.prog w = .ok false w) (hx : xs[off]? = some v) : (part t xs off).run Tryd.prog W = .ok v W := by
  have : off < xs.size := by
    rcases Nat.lt_or_ge off xs.size with h | h
    · exact h
    · rw [Array.getElem?_eq_none h] at hx; cases hx
  simp [part, ha, hx, go_sem]
theorem eqf_more {d : Nat} {xs ys : Array Value} {f : Field} {fs : List Field} {a b : Value} {r s : Bool} {w : World} (hn : f.name ≠ "_") (ha : (part f.type xs f.offset).run Tryd.prog w = .ok a w) (hb : (part f.type ys f.offset).run Tryd.prog w = .ok b w)
    (he : (Op.equalIn d f.type a b).run Tryd.prog w = .ok r w) (hr : (Op.eqFields d xs ys fs).run Tryd.prog w = .ok s w) : (Op.eqFields d xs ys (f :: fs)).run Tryd.prog w = .ok (r && s) w := by
  rw [Op.eqFields]
  simp only [if_pos hn, Sem.run_bind, ha, hb, he, Result.andThen_ok]
  cases r
  · simp
  · simpa using hr
theorem eqf_done {d : Nat} {xs ys : Array Value} {w : World} : (Op.eqFields d xs ys []).run Tryd.prog w = .ok true w := by simp [Op.eqFields]
theorem isAgg3 (w : World) : (isAgg 3).run Tryd.prog w = .ok false w := by kernel_rfl
theorem eq41 (r b l r' b' l' : Int) (W : World) : (Op.equalIn 10000 41 (capV r b l) (capV r' b' l')).run Tryd.prog W = .ok (r == r' && (b == b' && (l == l' && true))) W := by
  have hf : Tryd.prog.fieldsOf 41 = #[{ name := "Rate", type := 3, offset := 0, embedded := false, tag := "", pkgPath := "", byteOffset := 0 }, { name := "Burst", type := 3, offset := 1, embedded := false, tag := "", pkgPath := "", byteOffset := 8 }, { name := "Left", type := 3, offset := 2, embedded := false, tag := "", pkgPath := "", byteOffset := 16 }] := by
    simp only [Program.fieldsOf, Tryd.underlying41]
  rw [show (10000 : Nat) = 9998 + 1 + 1 from rfl, run_equalIn_struct W (9998 + 1) 41 _ _ (by rw [hf]; exact Tryd.underlying41) (by kernel_rfl), hf]
  exact eqf_more (by decide) (part1 3 0 _ _ W isAgg3 rfl) (part1 3 0 _ _ W isAgg3 rfl) (run_equalIn_int W 9998 3 .i64 .i64 r r' Tryd.underlying3)
    (eqf_more (by decide) (part1 3 1 _ _ W isAgg3 rfl) (part1 3 1 _ _ W isAgg3 rfl) (run_equalIn_int W 9998 3 .i64 .i64 b b' Tryd.underlying3)
      (eqf_more (by decide) (part1 3 2 _ _ W isAgg3 rfl) (part1 3 2 _ _ W isAgg3 rfl) (run_equalIn_int W 9998 3 .i64 .i64 l l' Tryd.underlying3) eqf_done))
theorem eq41_same (r b l : Int) (W : World) : (Op.equalIn 10000 41 (capV r b l) (capV r b l)).run Tryd.prog W = .ok true W := by
  rw [eq41]
  simp
end Go.Proofs.YthappdipoofclaaDoor
