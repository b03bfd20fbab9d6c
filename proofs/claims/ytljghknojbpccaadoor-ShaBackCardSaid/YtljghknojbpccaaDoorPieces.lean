/-
  THE PLAIN LAW OF PIECES: what a Hash keeps (the state behind the whole blocks, the bytes behind them) is carried on when bytes come in.
-/
import Derived.Test.YtljghknojbpccaaDoorPlain
namespace Go.Proofs.YtljghknojbpccaaDoor.Sp
set_option linter.unusedSimpArgs false
set_option linter.unusedVariables false

theorem after_prefix (m x : List UInt8) : ∀ n, 64 * n ≤ m.length → after (m ++ x) n = after m n
  | 0, _ => rfl
  | n + 1, h => by
    have e : ((m ++ x).drop (64 * n)).take 64 = (m.drop (64 * n)).take 64 := by
      rw [List.drop_append_of_le_length (by omega), List.take_append_of_le_length (by simp; omega)]
    rw [after, after, after_prefix m x n (by omega), e]

/-- the sixty-four bytes kept, of which the first are those behind the last whole block -/
structure Rest (m rest : List UInt8) : Prop where
  len : rest.length = 64
  first : rest.take (m.length % 64) = m.drop (64 * (m.length / 64))

theorem Rest.start (rest : List UInt8) (h : rest.length = 64) : Rest [] rest := ⟨h, by simp⟩

/-- the kept bytes when k more come in -/
def fill (rest bs : List UInt8) (used k : Nat) : List UInt8 := rest.take used ++ bs.take k ++ rest.drop (used + k)
theorem fill_length (rest bs : List UInt8) (used k : Nat) (h : rest.length = 64) (h1 : used + k ≤ 64) (h2 : k ≤ bs.length) : (fill rest bs used k).length = 64 := by
  simp [fill, h]
  omega

/-- not yet a whole block -/
theorem Rest.more {m rest bs : List UInt8} {k : Nat} (h : Rest m rest) (hk : k ≤ bs.length) (hlt : m.length % 64 + k < 64) :
    Rest (m ++ bs.take k) (fill rest bs (m.length % 64) k) ∧ after (m ++ bs.take k) ((m ++ bs.take k).length / 64) = after m (m.length / 64) := by
  have hl : (m ++ bs.take k).length = m.length + k := by simp; omega
  have hd : (m.length + k) / 64 = m.length / 64 := by omega
  have hm : (m.length + k) % 64 = m.length % 64 + k := by omega
  refine ⟨⟨fill_length _ _ _ _ h.len (by omega) hk, ?_⟩, ?_⟩
  · rw [hl, hd, hm]
    have e1 : (rest.take (m.length % 64) ++ bs.take k).length = m.length % 64 + k := by simp [h.len]; omega
    rw [fill, List.take_append_of_le_length (by omega), ← e1, List.take_length, h.first, List.drop_append_of_le_length (by omega)]
  · rw [hl, hd, after_prefix _ _ _ (by omega)]

/-- a block is whole -/
theorem Rest.whole {m rest bs : List UInt8} {k : Nat} (h : Rest m rest) (hk : k ≤ bs.length) (he : m.length % 64 + k = 64) :
    Rest (m ++ bs.take k) (fill rest bs (m.length % 64) k) ∧ after (m ++ bs.take k) ((m ++ bs.take k).length / 64) = compress (after m (m.length / 64)) (fill rest bs (m.length % 64) k) := by
  have hl : (m ++ bs.take k).length = m.length + k := by simp; omega
  have hd : (m.length + k) / 64 = m.length / 64 + 1 := by omega
  have hm : (m.length + k) % 64 = 0 := by omega
  have e1 : (rest.take (m.length % 64) ++ bs.take k).length = 64 := by simp [h.len]; omega
  have e2 : fill rest bs (m.length % 64) k = rest.take (m.length % 64) ++ bs.take k := by
    rw [fill, he, List.drop_of_length_le (by rw [h.len]; omega), List.append_nil]
  refine ⟨⟨fill_length _ _ _ _ h.len (by omega) hk, ?_⟩, ?_⟩
  · rw [hl, hd, hm, List.drop_of_length_le (by simp; omega)]
    rfl
  · rw [hl, hd, after, after_prefix _ _ _ (by omega), e2]
    congr 1
    rw [List.drop_append_of_le_length (by omega), ← h.first]
    exact List.take_of_length_le (by omega)

theorem take_add_drop (bs : List UInt8) (k : Nat) (m : List UInt8) : (m ++ bs.take k) ++ bs.drop k = m ++ bs := by
  rw [List.append_assoc, List.take_append_drop]

theorem zeros_length (m : List UInt8) : (m ++ [128] ++ List.replicate (zeros m.length) 0).length % 64 = 56 := by
  simp [zeros]
  omega
theorem padded_length (m : List UInt8) : (padded m).length % 64 = 0 := by
  have := zeros_length m
  simp only [padded, List.length_append] at this ⊢
  simp [be64] at this ⊢
  omega

end Go.Proofs.YtljghknojbpccaaDoor.Sp
