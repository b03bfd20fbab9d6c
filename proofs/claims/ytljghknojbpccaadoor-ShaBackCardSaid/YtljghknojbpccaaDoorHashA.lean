/-
  THE WALKS OF sha.New, Len, Copy and Write: a Hash holds the bytes that it has received.
-/
import Derived.Test.YtljghknojbpccaaDoorProcess
import Derived.Test.YtljghknojbpccaaDoorPieces
import Derived.Deep.RegionLaw
namespace Go.Proofs.YtljghknojbpccaaDoor
set_option linter.unusedSimpArgs false
set_option linter.unusedVariables false
open Go.RowKit

def hashV (st : Sp.S8) (rest : List UInt8) (n : Nat) : Array Value := s8V st ++ bytesV rest ++ #[.int .i64 (n : Int)]
theorem hashV_size (st : Sp.S8) (rest : List UInt8) (n : Nat) : (hashV st rest n).size = 8 + rest.length + 1 := by
  simp [hashV, s8V, bytesV]
  omega
theorem hashV_one (st : Sp.S8) (rest : List UInt8) (n : Nat) : (hashV st rest n).all (·.oneCell') = true := by
  simp only [hashV, Array.all_append, s8V_one, bytesV_one, Bool.true_and]
  simp [Value.oneCell']
theorem hashV_state (st : Sp.S8) (rest : List UInt8) (n j : Nat) (v : Value) (h : (s8V st)[j]? = some v) : (hashV st rest n)[j]? = some v := by
  have hj : j < 8 := by
    rcases Nat.lt_or_ge j 8 with h1 | h1
    · exact h1
    · rw [Array.getElem?_eq_none (by simpa [s8V] using h1)] at h; cases h
  rw [hashV, Array.append_assoc, Array.getElem?_append, if_pos (by simpa [s8V] using hj)]
  exact h
theorem hashV_rest (st : Sp.S8) (rest : List UInt8) (n j : Nat) (v : Value) (h : (bytesV rest)[j]? = some v) : (hashV st rest n)[8 + j]? = some v := by
  have hj : j < rest.length := by
    rcases Nat.lt_or_ge j rest.length with h1 | h1
    · exact h1
    · rw [Array.getElem?_eq_none (by simpa [bytesV] using h1)] at h; cases h
  have e8 : (s8V st).size = 8 := rfl
  rw [hashV, Array.append_assoc, Array.getElem?_append, if_neg (by omega), e8, Nat.add_sub_cancel_left, Array.getElem?_append, if_pos (by simpa [bytesV] using hj)]
  exact h
theorem hashV_len (st : Sp.S8) (rest : List UInt8) (n : Nat) (h : rest.length = 64) : (hashV st rest n)[72]? = some (.int .i64 (n : Int)) := by
  have e8 : (s8V st).size = 8 := rfl
  rw [hashV, Array.getElem?_append, if_neg (by simp [bytesV_size, e8, h])]
  simp [bytesV_size, e8, h]
/-- a new state laid over the old one -/
theorem hashV_setState (st st' : Sp.S8) (rest : List UInt8) (n : Nat) : ((hashV st rest n).toList.take 0 ++ (s8V st').toList ++ (hashV st rest n).toList.drop (0 + (s8V st').size)).toArray = hashV st' rest n := by
  simp [hashV, s8V, bytesV]
/-- bytes copied into the rest -/
theorem hashV_copy (st : Sp.S8) (rest bs : List UInt8) (n u k : Nat) (h : rest.length = 64) (hu : u + k ≤ 64) (hk : k ≤ bs.length) :
    ((hashV st rest n).toList.take (8 + u) ++ (bs.take k).map U8 ++ (hashV st rest n).toList.drop (8 + u + ((bs.take k).map U8).length)).toArray = hashV st (Sp.fill rest bs u k) n := by
  have e : (hashV st rest n).toList = (s8V st).toList ++ (rest.map U8 ++ [.int .i64 (n : Int)]) := by simp [hashV, bytesV]
  have e8 : (s8V st).toList.length = 8 := rfl
  have el : ((bs.take k).map U8).length = k := by simp; omega
  rw [e, el, List.take_append, List.drop_append, e8, List.take_of_length_le (by omega), List.drop_of_length_le (by omega), Nat.add_sub_cancel_left, List.nil_append,
    show 8 + u + k - 8 = u + k by omega, List.take_append_of_le_length (by simp; omega), List.drop_append_of_le_length (by simp; omega)]
  simp [hashV, bytesV, Sp.fill, List.map_take, List.map_drop]
theorem hashV_setLen (st : Sp.S8) (rest : List UInt8) (n : Nat) (x : Int) (h : rest.length = 64) (y : Nat) (hy : x = y) : (hashV st rest n).setIfInBounds 72 (.int .i64 x) = hashV st rest y := by
  subst hy
  have e8 : (s8V st).size = 8 := rfl
  rw [hashV, Array.setIfInBounds_append_right (by simp [bytesV_size, e8, h])]
  simp [bytesV_size, e8, h, hashV]

/-- block g is a Hash that has received m -/
structure Holds (w : World) (g : Nat) (m : List UInt8) : Prop where
  ex : ∃ rest, Sp.Rest m rest ∧ Blk w g 49 (hashV (Sp.after m (m.length / 64)) rest m.length)
theorem Holds.keep {w w' : World} {g : Nat} {m : List UInt8} (h : Holds w g m) (hk : w'.heap[g]? = w.heap[g]?) : Holds w' g m := by
  obtain ⟨rest, hr, hb⟩ := h.ex
  exact ⟨rest, hr, hk.trans hb⟩
theorem Holds.below {w w' : World} {g B : Nat} {m : List UInt8} (h : Holds w g m) (hb : Below B w w') (hg : g < B) : Holds w' g m := h.keep (hb.block g hg)
theorem Holds.lt {w : World} {g : Nat} {m : List UInt8} (h : Holds w g m) : g < w.heap.size := by
  obtain ⟨_, _, hb⟩ := h.ex
  exact hb.lt

/-- a slice of bytes that is read, not in block g -/
def Src (w : World) (g : Nat) (A : Option Addr) (n : Nat) (xs : List Value) : Prop :=
  xs.length = n ∧ (0 < n → ∃ ad, A = some ad ∧ ad.block ≠ g ∧ ∀ j u, xs[j]? = some u → w.cell? (ad.add j) = some u)

theorem new_built : Tryd.prog.built 49 [(0, .agg (s8V Sp.init))] = some (hashV Sp.init (List.replicate 64 0) 0) := by kernel_rfl
theorem new_any (w : World) (ht : Tables w) : Calls Tryd.prog 12 #[] w fun e w' => e = .returned (.pointer (some ⟨w.heap.size, 0, none⟩)) ∧ Holds w' w.heap.size [] ∧ Below w.heap.size w w' := by
  go_enter Tryd.func12, Tryd.ntmps12
  go_wp2_with (first
    | (refine wpList_load_cells rfl 44 _ rfl ⟨0, 0, none⟩ rfl (s8V Sp.init) _ Tryd.underlying44 rfl info44 (fun j v hj => (by simp only [Addr.add_lit, Nat.zero_add]; exact ht.init j v hj)) ?_)
    | (refine wpList_buildB rfl 49 [(0, .tmp 1)] rfl (hashV Sp.init (List.replicate 64 0) 0) new_built ?_))
  go_ret
  refine ⟨rfl, ⟨⟨List.replicate 64 0, Sp.Rest.start _ rfl, Blk.at0 w 49 _ _ rfl⟩⟩, (Below.refl _ _).alloc (Nat.le_refl _) _⟩

theorem Holds.cellLen {w : World} {g : Nat} {m : List UInt8} (h : Holds w g m) : w.cell? ⟨g, 72, none⟩ = some (.int .i64 (m.length : Int)) := by
  obtain ⟨rest, hr, hb⟩ := h.ex
  exact (hb.cell 72).trans (hashV_len _ _ _ hr.len)
theorem len_any (g : Nat) (m : List UInt8) (w : World) (h : Holds w g m) : Calls Tryd.prog 14 #[.pointer (some ⟨g, 0, none⟩)] w fun e w' => e = .returned (.int .i64 (m.length : Int)) ∧ w = w' := by
  have hc := h.cellLen
  go_enter Tryd.func14, Tryd.ntmps14
  go_wp2
  go_ret
  exact ⟨rfl, rfl⟩
def zeroH : Array Value := hashV ⟨0, 0, 0, 0, 0, 0, 0, 0⟩ (List.replicate 64 0) 0
theorem zeroH_size : zeroH.size = 73 := by rw [zeroH, hashV_size]; rfl
theorem zero49 (w : World) : (zeroValue 49).run Tryd.prog w = .ok (.agg zeroH) w := by kernel_rfl
attribute [go_sem] zero49
theorem copy_any (g : Nat) (m : List UInt8) (w : World) (h : Holds w g m) :
    Calls Tryd.prog 16 #[.pointer (some ⟨g, 0, none⟩)] w fun e w' => e = .returned (.pointer (some ⟨w.heap.size, 0, none⟩)) ∧ Holds w' w.heap.size m ∧ Below w.heap.size w w' := by
  obtain ⟨rest, hr, hb⟩ := h.ex
  generalize hV : hashV (Sp.after m (m.length / 64)) rest m.length = V at hb
  have HV := Lib.hid hV
  have hs : V.size = 73 := by rw [← hV, hashV_size, hr.len]
  have h1 : V.all (·.oneCell') = true := by rw [← hV]; exact hashV_one _ _ _
  have Hs := Lib.hid hs
  clear hV hs
  go_enter Tryd.func16, Tryd.ntmps16
  go_wp2_with (first
    | (refine load49 rfl _ rfl g rfl V hb Hs.out ?_)
    | (refine store49 rfl _ _ rfl w.heap.size rfl V rfl zeroH (Blk.at0 w 49 _ _ rfl) zeroH_size Hs.out h1 ?_))
  go_ret
  refine ⟨rfl, ⟨⟨rest, hr, ?_⟩⟩, below_setRow ((Below.refl _ _).alloc (Nat.le_refl _) _) (Nat.le_refl _) _⟩
  rw [HV.out]
  exact (Blk.new w 49 _).setRow _
theorem slice47at (B off u : Nat) (h : u < 64) (W : World) : (Instr.sliceAt 47 (Value.pointer (some ⟨B, off, none⟩)) (some (.int .i64 (u : Int))) none none).run Tryd.prog W = .ok (.slice (some ⟨B, off + u, none⟩) (64 - u) (64 - u)) W := by
  have h64 : Tryd.prog.arrayLen 47 = 64 := by kernel_rfl
  have e := run_sliceAt_array_l (P := Tryd.prog) W 47 ⟨B, off, none⟩ (by kernel_rfl) .i64 (u : Int) (by omega) (by rw [h64]; omega)
  have h5 : Tryd.prog.elem 47 = 5 := by kernel_rfl
  have hs : ∀ W : World, (sizeOf 5).run Tryd.prog W = .ok 1 W := fun _ => by kernel_rfl
  rw [e, h5, hs, h64]
  simp only [Result.andThen_ok, slicedAt, Int.toNat_natCast, Nat.mul_one]
  rw [if_neg (by omega)]
  simp [go_sem]
theorem info5 : (Tryd.prog.info? 5).map (·.size) = some 1 := by kernel_rfl
def sliceN : Value → Nat
  | .slice _ n _ => n
  | _ => 0
/-- what holds at each round's head of Write: 'was' has been taken in, 'todo' is to come -/
structure WInv (w wr : World) (g : Nat) (all : List UInt8) (A : Option Addr) (n c : Nat) (was todo : List UInt8) : Prop where
  all : was ++ todo = all
  len : todo.length = n
  src : Src wr g A n (todo.map U8)
  holds : Holds wr g was
  frame : w.grownBy wr (some g)
  cap : n ≤ c
theorem WInv.next {w wr wc : World} {g n c c' k : Nat} {all was todo : List UInt8} {ad : Addr} {A' : Option Addr} (h : WInv w wr g all (some ad) n c was todo) (hne : ad.block ≠ g) (hn : 0 < n) (hk : k ≤ n)
    (hH : Holds wc g (was ++ todo.take k)) (hf : wr.grownBy wc (some g)) (hA : (c = k ∧ A' = some ad ∧ c' = 0) ∨ (A' = some (ad.add k) ∧ c' = c - k)) : WInv w wc g all A' (n - k) c' (was ++ todo.take k) (todo.drop k) := by
  have hl := h.len
  have hc := h.cap
  obtain ⟨ad', e, _, hcell⟩ := h.src.2 hn
  obtain rfl : ad = ad' := by injection e
  refine ⟨by rw [Sp.take_add_drop]; exact h.all, by simp; omega, ⟨by simp; omega, fun hp => ?_⟩, hH, only_trans h.frame hf, ?_⟩
  · rcases hA with ⟨rfl, _, _⟩ | ⟨rfl, _⟩
    · omega
    · refine ⟨_, rfl, by rw [block_of_add]; exact hne, fun j u hu => ?_⟩
      rw [add_of_add]
      have h1 := hcell (k + j) u (by rw [List.map_drop, List.getElem?_drop] at hu; exact hu)
      have hb : (wc.heap)[(ad.add (k + j)).block]? = wr.heap[(ad.add (k + j)).block]? := by
        have hlt := block_lt_of_cell h1
        exact hf.block _ hlt (by rw [block_of_add]; intro e; exact hne (by injection e))
      exact (World.cell?_of_block hb).trans h1
  · rcases hA with ⟨rfl, _, rfl⟩ | ⟨_, rfl⟩ <;> omega
theorem Tables.grown {w w' : World} {g : Nat} (h : Tables w) (hb : w.grownBy w' (some g)) (hg : 2 ≤ g) : Tables w' := by
  have := h.size
  exact ⟨fun j v hj => (World.cell?_of_block (a := ⟨0, j, none⟩) (hb.block 0 (by omega) (by simp; omega))).trans (h.init j v hj),
    fun j hj => (World.cell?_of_block (a := ⟨1, j, none⟩) (hb.block 1 (by omega) (by simp; omega))).trans (h.ks j hj)⟩

end Go.Proofs.YtljghknojbpccaaDoor
