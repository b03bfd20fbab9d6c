/-
  SLICES OF BYTES: a slice that reads as a list of bytes; its text.
-/
import Derived.Test.YthappdipoofclaaDoorMem
import Derived.Test.YthappdipoofclaaDoorProg
import Derived.Stop.BytesEq
import Derived.Lib.SlBytesConst
import Derived.WalkSpells
import Derived.Lib.Hide
namespace Go.Proofs.YthappdipoofclaaDoor
set_option linter.unusedSimpArgs false
set_option linter.unusedVariables false
open Go.RowKit

/-- the byte's number, behind a name -/
def N8 (x : UInt8) : Int := (x.toNat : Int)
abbrev U8 (x : UInt8) : Value := .int .u8 (N8 x)
theorem N8_in (x : UInt8) : 0 ≤ N8 x ∧ N8 x < 256 := by
  unfold N8
  have := x.toNat_lt
  omega
theorem info5' : (Tryd.prog.info? 5).map (fun i => (i.zero, i.size, i.bytes)) = some (some (.int .u8 0), 1, 1) := by kernel_rfl
/-- a slice of bytes that is read -/
structure Rd (w : World) (A : Option Addr) (n : Nat) (xs : List UInt8) : Prop where
  len : xs.length = n
  cells : 0 < n → ∃ ad, A = some ad ∧ ∀ j u, (xs.map U8)[j]? = some u → w.cell? (ad.add j) = some u
theorem Rd.grown {w w' : World} {A : Option Addr} {n : Nat} {xs : List UInt8} (h : Rd w A n xs) (hb : Below w.heap.size w w') : Rd w' A n xs := by
  refine ⟨h.len, fun hn => ?_⟩
  obtain ⟨ad, e, hc⟩ := h.cells hn
  exact ⟨ad, e, fun j u hu => by
    have h1 := hc j u hu
    exact (hb.cell (block_lt_of_cell h1)).trans h1⟩
theorem Rd.none_ (w : World) : Rd w none 0 [] := ⟨rfl, fun h => absurd h (by omega)⟩

theorem U8_one (l : List UInt8) : ∀ u ∈ l.map U8, u.oneCell' = true := by
  intro v hv
  obtain ⟨x, _, rfl⟩ := List.mem_map.1 hv
  rfl
theorem Rd.reads {w : World} {A : Option Addr} {n : Nat} {xs : List UInt8} (h : Rd w A n xs) : Reads w w.heap.size 1 A n (xs.map U8) := by
  refine ⟨by simpa using h.len, fun hn => ?_⟩
  obtain ⟨ad, e, hc⟩ := h.cells hn
  have hl := h.len
  have h0 := hc 0 (U8 (xs[0]'(by omega))) (by simp [List.getElem?_eq_getElem (show 0 < xs.length by omega)])
  have hlt := block_lt_of_cell h0
  rw [block_of_add] at hlt
  exact ⟨ad, e, hlt, hc⟩
theorem reads_one8 (W : World) (x : UInt8) (t : TypeId) : Reads (W.alloc (.cells #[U8 x] t)) (W.heap.size + 1) 1 (some ⟨W.heap.size, 0, none⟩) 1 [U8 x] :=
  ⟨rfl, fun _ => ⟨_, rfl, by simp, fun j u hu => by
    rw [Addr.add_lit, Nat.zero_add, (Blk.new W t #[U8 x]).cell j]
    simpa using hu⟩⟩
theorem conv_string (l : List UInt8) (ad : Addr) (cap : Nat) (w : World) (hc : ∀ j u, (l.map U8)[j]? = some u → w.cell? (ad.add j) = some u) (n : Nat) (hn : l.length = n) :
    (convert 31 9 (.slice (some ad) n cap)).run Tryd.prog w = .ok (.string ⟨l.toArray⟩) w := by
  subst hn
  rw [run_convert_bytes_string w 31 9 5 _ _ _ Tryd.underlying31 (by kernel_rfl) (by kernel_rfl)]
  have hm : (l.map U8) = (l.map N8).map (Value.int .u8) := by simp
  have hl := run_loadCells_list (P := Tryd.prog) w ad (l.map U8) (fun j v hj => hc j v hj)
  rw [List.length_map] at hl
  rw [run_bytesToString w ad l.length cap (l.map N8) (by rw [hl, hm]), foldl_push_bytes]
  congr 2
  have e : List.map (fun n : Int => UInt8.ofNat n.toNat) (l.map N8) = l := by
    rw [List.map_map]
    conv => rhs; rw [← List.map_id l]
    apply List.map_congr_left
    intro x _
    simp [N8]
  rw [e]
  simp [ByteArray.empty, ByteArray.emptyWithCapacity]
  rfl

theorem conv_rd (xs : List UInt8) (A : Option Addr) (n c : Nat) (w : World) (h : Rd w A n xs) : (convert 31 9 (.slice A n c)).run Tryd.prog w = .ok (.string ⟨xs.toArray⟩) w := by
  rcases A with _ | ad
  · have hn : n = 0 := by
      rcases Nat.eq_zero_or_pos n with h0 | h0
      · exact h0
      · obtain ⟨_, h1, _⟩ := h.cells h0; cases h1
    subst hn
    have hx : xs = [] := List.eq_nil_of_length_eq_zero h.len
    subst hx
    exact run_convert_bytes_nil w 31 5 Tryd.underlying31 Tryd.underlying5 0 c 9 (by kernel_rfl)
  · rcases Nat.eq_zero_or_pos n with h0 | h0
    · subst h0
      have hx : xs = [] := List.eq_nil_of_length_eq_zero h.len
      subst hx
      exact conv_string [] ad c w (fun j u hu => by simp at hu) 0 rfl
    · obtain ⟨ad', e, hc⟩ := h.cells h0
      obtain rfl : ad = ad' := by injection e
      exact conv_string xs ad c w hc n h.len
theorem Rd.take {w : World} {A : Option Addr} {n : Nat} {xs : List UInt8} (h : Rd w A n xs) (k : Nat) : Rd w A (min n k) (xs.take k) := by
  refine ⟨by have := h.len; simp; omega, fun hn => ?_⟩
  obtain ⟨ad, e, hc⟩ := h.cells (by omega)
  refine ⟨ad, e, fun j u hu => hc j u ?_⟩
  rw [List.map_take, List.getElem?_take] at hu
  split at hu
  · exact hu
  · cases hu
theorem own_form {w : World} {base n : Nat} {v : Value} {xs : List Value} {g : Nat} (h : w.ownsRow base 5 1 v n xs) (hg : v.ownBlock = some g) : ∃ cap, v = .slice (some ⟨g, 0, none⟩) n cap ∧ n ≤ cap := by
  rcases h.2 with ⟨rfl, _⟩ | ⟨g', cap, cur, rfl, _, _, hle, _⟩
  · simp [Value.ownBlock] at hg
  · have : g' = g := by simpa [Value.ownBlock] using hg
    subst this
    exact ⟨cap, rfl, hle⟩
theorem own_rd {w : World} {base n g cap : Nat} {xs : List UInt8} (h : w.ownsRow base 5 1 (.slice (some ⟨g, 0, none⟩) n cap) n (xs.map U8)) : Rd w (some ⟨g, 0, none⟩) n xs :=
  ⟨by have := h.1; simpa using this, fun _ => ⟨_, rfl, h.cells rfl⟩⟩
end Go.Proofs.YthappdipoofclaaDoor
