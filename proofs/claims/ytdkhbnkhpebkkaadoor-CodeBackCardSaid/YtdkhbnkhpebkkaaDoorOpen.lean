/-
  THE ARGUMENTS, OPENED: a slice of instructions, a slice of bytes.
-/
import Derived.Test.YtdkhbnkhpebkkaaDoorTabs
import Derived.Test.YtdkhbnkhpebkkaaDoorCheck
import Derived.Test.YtdkhbnkhpebkkaaDoorBytes
import Derived.Deep.Slices
namespace Go.Proofs.YtdkhbnkhpebkkaaDoor
set_option linter.unusedSimpArgs false
set_option linter.unusedVariables false
open Go.ChangeShapes Go.WideShapes Go.ChangeAt Go.RowKit

theorem cells5 : Tryd.prog.cellsOf 5 = 1 := by kernel_rfl
theorem cells46 : Tryd.prog.cellsOf 46 = 4 := by kernel_rfl

section
variable {H : Type} {enc : TypeId × Value → H} {P : Program} {w : World} {base : Nat} {spare : Nat → Bool} {held : Bool} {fuel : Nat} {t : TypeId} {x : DataW H × List MemPlace}
theorem some_of {α : Type} {xs : List α} {o : Option α} {i : Nat} (h : o = xs[i]?) (hl : i < xs.length) : ∃ y, o = some y := ⟨xs[i], by rw [h, List.getElem?_eq_getElem hl]⟩
theorem list3 {α : Type} {cs : List α} (h : cs.length = 3) : ∃ c0 c1 c2, cs = [c0, c1, c2] := by
  match cs, h with
  | [c0, c1, c2], _ => exact ⟨c0, c1, c2, rfl⟩
theorem list4 {α : Type} {cs : List α} (h : cs.length = 4) : ∃ c0 c1 c2 c3, cs = [c0, c1, c2, c3] := by
  match cs, h with
  | [c0, c1, c2, c3], _ => exact ⟨c0, c1, c2, c3, rfl⟩
theorem list6 {α : Type} {cs : List α} (h : cs.length = 6) : ∃ c0 c1 c2 c3 c4 c5, cs = [c0, c1, c2, c3, c4, c5] := by
  match cs, h with
  | [c0, c1, c2, c3, c4, c5], _ => exact ⟨c0, c1, c2, c3, c4, c5, rfl⟩
theorem okWide_cells {r : Reach} {b0 n : Nat} {fs : Array Field} {v : Value} (hs : P.underlying t = some (.struct fs)) (hC : P.cellsOf t = n) (hv : Value.okWide P w r b0 t v) : ∃ cs : List Value, v = .agg cs.toArray ∧ cs.length = n := by
  obtain ⟨cs, rfl, hsz⟩ := okWide_struct hs hv
  exact ⟨cs.toList, by simp, by simpa using hsz.trans hC⟩
theorem trod_len {fs : Array Field} {n : Nat} {cs : List Value} (hs : P.underlying t = some (.struct fs)) (hC : P.cellsOf t = n) (h : DataW.trod enc P w base spare held fuel t cs = some x) : cs.length = n := by
  obtain ⟨_, _, _, _, hl, _⟩ := DataW.trod_struct hs h
  exact hl.trans hC
/-- one field's own reading -/
theorem trod_at {fs : Array Field} {cs : List Value} (hs : P.underlying t = some (.struct fs)) (h : DataW.trod enc P w base spare held fuel t cs = some x) (i : Nat) (f : Field) (hf : fs[i]? = some f) (off k ft : Nat) (ho : f.offset = off) (ht : f.type = ft) (hk : P.cellsOf ft = k) (l : List Value) (hl : (cs.drop off).take k = l) :
    ∃ n y, DataW.trod enc P w base spare held n ft l = some y := by
  subst ho ht hk hl
  obtain ⟨xs, n, _, _, _, hlen, hg⟩ := DataW.trod_struct hs h
  have hi : i < fs.size := (Array.getElem?_eq_some_iff.1 hf).1
  obtain ⟨y, hy⟩ := some_of (hg i f hf) (by omega)
  exact ⟨n, y, hy⟩
end
section
variable {H : Type} {enc : TypeId × Value → H} {W : World} {base : Nat} {spare : Nat → Bool} {held : Bool} {fuel : Nat}
theorem wf_u8 {z : Int} (h : (Lit.int .u8 z).wf = true) : ∃ b : UInt8, N8 b = z := by
  simp [Lit.wf, IntKind.min, IntKind.max, IntKind.signed, IntKind.bits] at h
  refine ⟨UInt8.ofNat z.toNat, ?_⟩
  unfold N8
  rw [UInt8.toNat_ofNat', Nat.mod_eq_of_lt (by omega)]
  omega
theorem trod_ins {cs : List Value} {x : DataW H × List MemPlace} (h : DataW.trod enc Tryd.prog W base spare held fuel 46 cs = some x) : ∃ f : Ins, cs = (insA f).toList := by
  obtain ⟨c0, c1, c2, c3, rfl⟩ := list4 (trod_len Tryd.underlying46 cells46 h)
  obtain ⟨_, _, h0⟩ := trod_at Tryd.underlying46 h 0 _ rfl 0 1 5 rfl rfl cells5 [c0] rfl
  obtain ⟨_, _, h1⟩ := trod_at Tryd.underlying46 h 1 _ rfl 1 1 5 rfl rfl cells5 [c1] rfl
  obtain ⟨_, _, h2⟩ := trod_at Tryd.underlying46 h 2 _ rfl 2 1 5 rfl rfl cells5 [c2] rfl
  obtain ⟨_, _, h3⟩ := trod_at Tryd.underlying46 h 3 _ rfl 3 1 5 rfl rfl cells5 [c3] rfl
  obtain ⟨z0, e0, _, w0⟩ := DataW.trod_int Tryd.underlying5 h0
  obtain ⟨z1, e1, _, w1⟩ := DataW.trod_int Tryd.underlying5 h1
  obtain ⟨z2, e2, _, w2⟩ := DataW.trod_int Tryd.underlying5 h2
  obtain ⟨z3, e3, _, w3⟩ := DataW.trod_int Tryd.underlying5 h3
  injection e0 with e0
  injection e1 with e1
  injection e2 with e2
  injection e3 with e3
  obtain ⟨b0, rfl⟩ := wf_u8 w0
  obtain ⟨b1, rfl⟩ := wf_u8 w1
  obtain ⟨b2, rfl⟩ := wf_u8 w2
  obtain ⟨b3, rfl⟩ := wf_u8 w3
  exact ⟨⟨b0, b1, b2, b3⟩, by rw [e0, e1, e2, e3]⟩
theorem trod_ird {c : Value} {x : DataW H × List MemPlace} (h : DataW.trod enc Tryd.prog W 0 (fun _ => true) held fuel 23 [c] = some x) :
    ∃ (A : Option Addr) (n cp : Nat) (fs : List Ins), c = .slice A n cp ∧ IRd W A n fs ∧ n ≤ cp ∧ n ≤ 9223372036854775807 := by
  rcases Go.Deep.open_slice Tryd.underlying23 h with ⟨hcs, _⟩ | ⟨a, n, cp, m, q, D, Pl, hcs, _, hnc, hm, hmm, _, hx⟩
  · injection hcs with hv
    exact ⟨none, 0, 0, [], hv, ⟨rfl, fun k f hf => by simp at hf⟩, Nat.le_refl _, by omega⟩
  · injection hcs with hv
    rw [if_pos rfl] at hmm
    subst hmm
    haveI : Inhabited Ins := ⟨⟨0, 0, 0, 0⟩⟩
    obtain ⟨F, hF⟩ := Go.Deep.choose_lt (α := Ins) (n := n) (p := fun i f => ∀ j v, (insA f)[j]? = some v → W.cell? ((a.add (i * 4)).add j) = some v) (fun i hi => by
      obtain ⟨cs', h1, h2⟩ := hx i (by omega)
      obtain ⟨f, e⟩ := trod_ins h2
      rw [cells46] at h1
      obtain ⟨_, hl, hat⟩ := World.cells?_some h1
      refine ⟨f, fun j v hj => ?_⟩
      have hj4 : j < 4 := by
        rcases Nat.lt_or_ge j 4 with h | h
        · exact h
        · rw [Array.getElem?_eq_none (by simpa using h)] at hj; cases hj
      rw [hat j hj4, e, ← hj]
      simp)
    refine ⟨some a, n, m, (List.range n).map F, hv, ⟨by simp, fun k f hf => ?_⟩, hnc, by simp only [maxLen] at hm; omega⟩
    · have hk : k < n := by
        rcases Nat.lt_or_ge k n with h | h
        · exact h
        · rw [List.getElem?_eq_none (by simpa using h)] at hf; cases hf
      rw [List.getElem?_map, List.getElem?_range hk] at hf
      injection hf with hf
      subst hf
      exact ⟨a, rfl, hF k hk⟩
theorem trod_rd {c : Value} {x : DataW H × List MemPlace} (h : DataW.trod enc Tryd.prog W 0 (fun _ => true) held fuel 36 [c] = some x) :
    ∃ (A : Option Addr) (n cp : Nat) (bs : List UInt8), c = .slice A n cp ∧ Rd W A n bs ∧ n ≤ cp ∧ n ≤ 9223372036854775807 := by
  rcases open_ints Tryd.underlying36 Tryd.underlying5 cells5 h with ⟨hcs, _⟩ | ⟨a, n, cp, zs, hcs, _, hnc, hm, hzl, _, hcell, hwf⟩
  · injection hcs with hv
    exact ⟨none, 0, 0, [], hv, ⟨rfl, fun h => by omega⟩, Nat.le_refl _, by omega⟩
  · injection hcs with hv
    rw [if_pos rfl] at hzl
    refine ⟨some a, n, cp, (zs.take n).map fun z => UInt8.ofNat z.toNat, hv, ⟨by simp; omega, fun _ => ⟨a, rfl, fun j u hu => ?_⟩⟩, hnc, by simp only [maxLen] at hm; omega⟩
    have hj : j < n := Nat.lt_of_not_le fun hc' => by
      rw [List.getElem?_eq_none (by simp; omega)] at hu
      cases hu
    have hjz : j < zs.length := by omega
    rw [hcell j hjz]
    have hw := hwf _ (List.getElem_mem hjz)
    have hlo : 0 ≤ zs[j] ∧ zs[j] < 256 := by
      simp [Lit.wf, IntKind.min, IntKind.max, IntKind.signed, IntKind.bits] at hw
      omega
    have hn8 : N8 (UInt8.ofNat zs[j].toNat) = zs[j] := by
      unfold N8
      rw [UInt8.toNat_ofNat', Nat.mod_eq_of_lt (by omega)]
      omega
    simp only [List.map_map, List.map_take, List.getElem?_take, hj, if_pos, List.getElem?_map, List.getElem?_eq_getElem hjz, Option.map_some, Function.comp, Option.some.injEq] at hu
    rw [← hu, List.getD, List.getElem?_eq_getElem hjz, Option.getD_some]
    show _ = some (Value.int .u8 (N8 _))
    rw [hn8]
set_option maxRecDepth 100000 in
theorem open_ird {r : Reach} {b0 : Nat} {v : Value} {d : DataW H} {p : List MemPlace} (hv : Value.okWide Tryd.prog W r b0 23 v) (h : DataW.Trod enc Tryd.prog W 0 (fun _ => true) held 23 v d p) :
    ∃ (A : Option Addr) (n cp : Nat) (fs : List Ins), v = .slice A n cp ∧ IRd W A n fs ∧ n ≤ cp ∧ n ≤ 9223372036854775807 := by
  obtain ⟨A, n, c, rfl⟩ := okWide_slice Tryd.underlying23 hv
  obtain ⟨fuel, hf⟩ := h
  exact trod_ird hf
set_option maxRecDepth 100000 in
theorem open_rd {r : Reach} {b0 : Nat} {v : Value} {d : DataW H} {p : List MemPlace} (hv : Value.okWide Tryd.prog W r b0 36 v) (h : DataW.Trod enc Tryd.prog W 0 (fun _ => true) held 36 v d p) :
    ∃ (A : Option Addr) (n cp : Nat) (bs : List UInt8), v = .slice A n cp ∧ Rd W A n bs ∧ n ≤ cp ∧ n ≤ 9223372036854775807 := by
  obtain ⟨A, n, c, rfl⟩ := okWide_slice Tryd.underlying36 hv
  obtain ⟨fuel, hf⟩ := h
  exact trod_rd hf
end
end Go.Proofs.YtdkhbnkhpebkkaaDoor
