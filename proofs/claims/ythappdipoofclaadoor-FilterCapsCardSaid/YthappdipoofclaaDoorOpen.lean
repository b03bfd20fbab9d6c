/-
  THE ARGUMENTS, OPENED: a cap, a rule with its fields, a slice of bytes, Caps, Wider.
-/
import Derived.Test.YthappdipoofclaaDoorTabs
import Derived.Test.YthappdipoofclaaDoorRuleA
import Derived.Test.YthappdipoofclaaDoorBools
import Derived.Deep.Slices
namespace Go.Proofs.YthappdipoofclaaDoor
set_option linter.unusedSimpArgs false
set_option linter.unusedVariables false
open Go.ChangeShapes Go.WideShapes Go.ChangeAt Go.RowKit

theorem cells3 : Tryd.prog.cellsOf 3 = 1 := by kernel_rfl
theorem cells5 : Tryd.prog.cellsOf 5 = 1 := by kernel_rfl
theorem cells4 : Tryd.prog.cellsOf 4 = 1 := by kernel_rfl
theorem cells28 : Tryd.prog.cellsOf 28 = 1 := by kernel_rfl
theorem cells31 : Tryd.prog.cellsOf 31 = 1 := by kernel_rfl
theorem cells32 : Tryd.prog.cellsOf 32 = 1 := by kernel_rfl
theorem cells42 : Tryd.prog.cellsOf 42 = 1 := by kernel_rfl
theorem cells30 : Tryd.prog.cellsOf 30 = 3 := by kernel_rfl
theorem cells38 : Tryd.prog.cellsOf 38 = 4 := by kernel_rfl
theorem cells41 : Tryd.prog.cellsOf 41 = 3 := by kernel_rfl
theorem cells44 : Tryd.prog.cellsOf 44 = 6 := by kernel_rfl
theorem cells34 : Tryd.prog.cellsOf 34 = 6 := by kernel_rfl

section
variable {H : Type} {enc : TypeId × Value → H} {P : Program} {w : World} {base : Nat} {spare : Nat → Bool} {held : Bool} {fuel : Nat} {t : TypeId} {x : DataW H × List MemPlace}
theorem some_of {α : Type} {xs : List α} {o : Option α} {i : Nat} (h : o = xs[i]?) (hl : i < xs.length) : ∃ y, o = some y := ⟨xs[i], by rw [h, List.getElem?_eq_getElem hl]⟩
theorem list3 {α : Type} {cs : List α} (h : cs.length = 3) : ∃ c0 c1 c2, cs = [c0, c1, c2] := by
  match cs, h with
  | [c0, c1, c2], _ => exact ⟨c0, c1, c2, rfl⟩
theorem list4 {α : Type} {cs : List α} (h : cs.length = 4) : ∃ c0 c1 c2 c3, cs = [c0, c1, c2, c3] := by
  match cs, h with
  | [c0, c1, c2, c3], _ => exact ⟨c0, c1, c2, c3, rfl⟩
theorem list6 {α : Type} {cs : List α} (h : cs.length = 6) : ∃ c0 c1 c2 c3 c4 c5, cs = [c0, c1, c2, c3, c4, c5] := by
  match cs, h with
  | [c0, c1, c2, c3, c4, c5], _ => exact ⟨c0, c1, c2, c3, c4, c5, rfl⟩
theorem okWide_cells {r : Reach} {b0 n : Nat} {fs : Array Field} {v : Value} (hs : P.underlying t = some (.struct fs)) (hC : P.cellsOf t = n) (hv : Value.okWide P w r b0 t v) : ∃ cs : List Value, v = .agg cs.toArray ∧ cs.length = n := by
  obtain ⟨cs, rfl, hsz⟩ := okWide_struct hs hv
  exact ⟨cs.toList, by simp, by simpa using hsz.trans hC⟩
theorem trod_len {fs : Array Field} {n : Nat} {cs : List Value} (hs : P.underlying t = some (.struct fs)) (hC : P.cellsOf t = n) (h : DataW.trod enc P w base spare held fuel t cs = some x) : cs.length = n := by
  obtain ⟨_, _, _, _, hl, _⟩ := DataW.trod_struct hs h
  exact hl.trans hC
/-- one field's own reading -/
theorem trod_at {fs : Array Field} {cs : List Value} (hs : P.underlying t = some (.struct fs)) (h : DataW.trod enc P w base spare held fuel t cs = some x) (i : Nat) (f : Field) (hf : fs[i]? = some f) (off k ft : Nat) (ho : f.offset = off) (ht : f.type = ft) (hk : P.cellsOf ft = k) (l : List Value) (hl : (cs.drop off).take k = l) :
    ∃ n y, DataW.trod enc P w base spare held n ft l = some y := by
  subst ho ht hk hl
  obtain ⟨xs, n, _, _, _, hlen, hg⟩ := DataW.trod_struct hs h
  have hi : i < fs.size := (Array.getElem?_eq_some_iff.1 hf).1
  obtain ⟨y, hy⟩ := some_of (hg i f hf) (by omega)
  exact ⟨n, y, hy⟩
end
section
variable {H : Type} {enc : TypeId × Value → H} {W : World} {base : Nat} {spare : Nat → Bool} {held : Bool} {fuel : Nat}
theorem trod_cap {c0 c1 c2 : Value} {x : DataW H × List MemPlace} (h : DataW.trod enc Tryd.prog W base spare held fuel 41 [c0, c1, c2] = some x) :
    ∃ r b l : Int, c0 = .int .i64 r ∧ c1 = .int .i64 b ∧ c2 = .int .i64 l := by
  obtain ⟨_, _, h0⟩ := trod_at Tryd.underlying41 h 0 _ rfl 0 1 3 rfl rfl cells3 [c0] rfl
  obtain ⟨_, _, h1⟩ := trod_at Tryd.underlying41 h 1 _ rfl 1 1 3 rfl rfl cells3 [c1] rfl
  obtain ⟨_, _, h2⟩ := trod_at Tryd.underlying41 h 2 _ rfl 2 1 3 rfl rfl cells3 [c2] rfl
  obtain ⟨r, e0, _, _⟩ := DataW.trod_int Tryd.underlying3 h0
  obtain ⟨b, e1, _, _⟩ := DataW.trod_int Tryd.underlying3 h1
  obtain ⟨l, e2, _, _⟩ := DataW.trod_int Tryd.underlying3 h2
  injection e0 with e0
  injection e1 with e1
  injection e2 with e2
  exact ⟨r, b, l, e0, e1, e2⟩
/-- a field's numbers lie in their kinds -/
structure Fld.wf (f : Fld) : Prop where
  at_ : -9223372036854775808 ≤ f.at_ ∧ f.at_ ≤ 9223372036854775807
  size : -9223372036854775808 ≤ f.size ∧ f.size ≤ 9223372036854775807
  low : 0 ≤ f.low ∧ f.low ≤ 18446744073709551615
  high : 0 ≤ f.high ∧ f.high ≤ 18446744073709551615
theorem wf_i64 {z : Int} (h : (Lit.int .i64 z).wf = true) : -9223372036854775808 ≤ z ∧ z ≤ 9223372036854775807 := by
  simp [Lit.wf, IntKind.min, IntKind.max, IntKind.signed, IntKind.bits] at h
  omega
theorem wf_u64 {z : Int} (h : (Lit.int .u64 z).wf = true) : 0 ≤ z ∧ z ≤ 18446744073709551615 := by
  simp [Lit.wf, IntKind.min, IntKind.max, IntKind.signed, IntKind.bits] at h
  omega
theorem trod_fld {cs : List Value} {x : DataW H × List MemPlace} (h : DataW.trod enc Tryd.prog W base spare held fuel 38 cs = some x) : ∃ f : Fld, cs = (fldA f).toList ∧ f.wf := by
  obtain ⟨c0, c1, c2, c3, rfl⟩ := list4 (trod_len Tryd.underlying38 cells38 h)
  obtain ⟨_, _, h0⟩ := trod_at Tryd.underlying38 h 0 _ rfl 0 1 3 rfl rfl cells3 [c0] rfl
  obtain ⟨_, _, h1⟩ := trod_at Tryd.underlying38 h 1 _ rfl 1 1 3 rfl rfl cells3 [c1] rfl
  obtain ⟨_, _, h2⟩ := trod_at Tryd.underlying38 h 2 _ rfl 2 1 32 rfl rfl cells32 [c2] rfl
  obtain ⟨_, _, h3⟩ := trod_at Tryd.underlying38 h 3 _ rfl 3 1 32 rfl rfl cells32 [c3] rfl
  obtain ⟨z0, e0, _, w0⟩ := DataW.trod_int Tryd.underlying3 h0
  obtain ⟨z1, e1, _, w1⟩ := DataW.trod_int Tryd.underlying3 h1
  obtain ⟨z2, e2, _, w2⟩ := DataW.trod_int Tryd.underlying32 h2
  obtain ⟨z3, e3, _, w3⟩ := DataW.trod_int Tryd.underlying32 h3
  injection e0 with e0
  injection e1 with e1
  injection e2 with e2
  injection e3 with e3
  exact ⟨⟨z0, z1, z2, z3⟩, by rw [e0, e1, e2, e3], wf_i64 w0, wf_i64 w1, wf_u64 w2, wf_u64 w3⟩

theorem trod_frd {c : Value} {x : DataW H × List MemPlace} (h : DataW.trod enc Tryd.prog W 0 (fun _ => true) held fuel 28 [c] = some x) :
    ∃ (A : Option Addr) (n cp : Nat) (fs : List Fld), c = .slice A n cp ∧ FRd W A n fs ∧ n ≤ cp ∧ n ≤ 9223372036854775807 ∧ ∀ f ∈ fs, f.wf := by
  rcases Go.Deep.open_slice Tryd.underlying28 h with ⟨hcs, _⟩ | ⟨a, n, cp, m, q, D, Pl, hcs, _, hnc, hm, hmm, _, hx⟩
  · injection hcs with hv
    exact ⟨none, 0, 0, [], hv, ⟨rfl, fun k f hf => by simp at hf⟩, Nat.le_refl _, by omega, fun f hf => by cases hf⟩
  · injection hcs with hv
    rw [if_pos rfl] at hmm
    subst hmm
    haveI : Inhabited Fld := ⟨⟨0, 0, 0, 0⟩⟩
    obtain ⟨F, hF⟩ := Go.Deep.choose_lt (α := Fld) (n := n) (p := fun i f => f.wf ∧ ∀ j v, (fldA f)[j]? = some v → W.cell? ((a.add (i * 4)).add j) = some v) (fun i hi => by
      obtain ⟨cs', h1, h2⟩ := hx i (by omega)
      obtain ⟨f, e, hwf⟩ := trod_fld h2
      rw [cells38] at h1
      obtain ⟨_, hl, hat⟩ := World.cells?_some h1
      refine ⟨f, hwf, fun j v hj => ?_⟩
      have hj4 : j < 4 := by
        rcases Nat.lt_or_ge j 4 with h | h
        · exact h
        · rw [Array.getElem?_eq_none (by simpa using h)] at hj; cases hj
      rw [hat j hj4, e, ← hj]
      simp)
    refine ⟨some a, n, m, (List.range n).map F, hv, ⟨by simp, fun k f hf => ?_⟩, hnc, by simp only [maxLen] at hm; omega, fun f hf => ?_⟩
    · have hk : k < n := by
        rcases Nat.lt_or_ge k n with h | h
        · exact h
        · rw [List.getElem?_eq_none (by simpa using h)] at hf; cases hf
      rw [List.getElem?_map, List.getElem?_range hk] at hf
      injection hf with hf
      subst hf
      exact ⟨a, rfl, (hF k hk).2⟩
    · obtain ⟨k, hk, rfl⟩ := List.mem_map.1 hf
      exact (hF k (by simpa using hk)).1
theorem trod_rd {c : Value} {x : DataW H × List MemPlace} (h : DataW.trod enc Tryd.prog W 0 (fun _ => true) held fuel 31 [c] = some x) :
    ∃ (A : Option Addr) (n cp : Nat) (bs : List UInt8), c = .slice A n cp ∧ Rd W A n bs ∧ n ≤ cp ∧ n ≤ 9223372036854775807 := by
  rcases open_ints Tryd.underlying31 Tryd.underlying5 cells5 h with ⟨hcs, _⟩ | ⟨a, n, cp, zs, hcs, _, hnc, hm, hzl, _, hcell, hwf⟩
  · injection hcs with hv
    exact ⟨none, 0, 0, [], hv, ⟨rfl, fun h => by omega⟩, Nat.le_refl _, by omega⟩
  · injection hcs with hv
    rw [if_pos rfl] at hzl
    refine ⟨some a, n, cp, (zs.take n).map fun z => UInt8.ofNat z.toNat, hv, ⟨by simp; omega, fun _ => ⟨a, rfl, fun j u hu => ?_⟩⟩, hnc, by simp only [maxLen] at hm; omega⟩
    have hj : j < n := Nat.lt_of_not_le fun hc' => by
      rw [List.getElem?_eq_none (by simp; omega)] at hu
      cases hu
    have hjz : j < zs.length := by omega
    rw [hcell j hjz]
    have hw := hwf _ (List.getElem_mem hjz)
    have hlo : 0 ≤ zs[j] ∧ zs[j] < 256 := by
      simp [Lit.wf, IntKind.min, IntKind.max, IntKind.signed, IntKind.bits] at hw
      omega
    have hn8 : N8 (UInt8.ofNat zs[j].toNat) = zs[j] := by
      unfold N8
      rw [UInt8.toNat_ofNat', Nat.mod_eq_of_lt (by omega)]
      omega
    simp only [List.map_map, List.map_take, List.getElem?_take, hj, if_pos, List.getElem?_map, List.getElem?_eq_getElem hjz, Option.map_some, Function.comp, Option.some.injEq] at hu
    rw [← hu, List.getD, List.getElem?_eq_getElem hjz, Option.getD_some]
    show _ = some (Value.int .u8 (N8 _))
    rw [hn8]
theorem trod_brd {c : Value} {x : DataW H × List MemPlace} (h : DataW.trod enc Tryd.prog W 0 (fun _ => true) held fuel 42 [c] = some x) :
    ∃ (A : Option Addr) (n cp : Nat) (fs : Nat → Bool), c = .slice A n cp ∧ BRd W A n fs ∧ n ≤ cp ∧ n ≤ 9223372036854775807 := by
  rcases Go.Deep.open_slice1 Tryd.underlying42 cells4 h with ⟨hcs, _⟩ | ⟨a, n, cp, m, q, V, D, Pl, hcs, _, hnc, hm, hmm, _, hx⟩
  · injection hcs with hv
    exact ⟨none, 0, 0, fun _ => false, hv, ⟨fun k h => by omega⟩, Nat.le_refl _, by omega⟩
  · injection hcs with hv
    rw [if_pos rfl] at hmm
    subst hmm
    obtain ⟨B, hB⟩ := Go.Deep.choose_lt (α := Bool) (n := n) (p := fun k b => V k = .bool b) (fun i hi => by
      obtain ⟨b, e, _⟩ := DataW.trod_bool Tryd.underlying4 (hx i (by omega)).2
      injection e with e
      exact ⟨b, e⟩)
    refine ⟨some a, n, m, B, hv, ⟨fun k hk => ⟨a, rfl, ?_⟩⟩, hnc, by simp only [maxLen] at hm; omega⟩
    rw [(hx k (by omega)).1, hB k hk]
theorem trod_rule {c0 c1 c2 : Value} {x : DataW H × List MemPlace} (h : DataW.trod enc Tryd.prog W 0 (fun _ => true) held fuel 30 [c0, c1, c2] = some x) :
    ∃ (least most : Int) (A : Option Addr) (n cp : Nat) (fs : List Fld), c0 = .int .i64 least ∧ c1 = .int .i64 most ∧ c2 = .slice A n cp ∧ FRd W A n fs ∧ n ≤ cp ∧ n ≤ 9223372036854775807 ∧ ∀ f ∈ fs, f.wf := by
  obtain ⟨_, _, h0⟩ := trod_at Tryd.underlying30 h 0 _ rfl 0 1 3 rfl rfl cells3 [c0] rfl
  obtain ⟨_, _, h1⟩ := trod_at Tryd.underlying30 h 1 _ rfl 1 1 3 rfl rfl cells3 [c1] rfl
  obtain ⟨_, _, h2⟩ := trod_at Tryd.underlying30 h 2 _ rfl 2 1 28 rfl rfl cells28 [c2] rfl
  obtain ⟨least, e0, _, _⟩ := DataW.trod_int Tryd.underlying3 h0
  obtain ⟨most, e1, _, _⟩ := DataW.trod_int Tryd.underlying3 h1
  injection e0 with e0
  injection e1 with e1
  obtain ⟨A, m, cp, fs, e2, hR, hnc, hn, hwf⟩ := trod_frd h2
  exact ⟨least, most, A, m, cp, fs, e0, e1, e2, hR, hnc, hn, hwf⟩

set_option maxRecDepth 100000 in
theorem open_cap {r : Reach} {b0 : Nat} {v : Value} {d : DataW H} {p : List MemPlace} (hv : Value.okWide Tryd.prog W r b0 41 v) (h : DataW.Trod enc Tryd.prog W base spare held 41 v d p) : ∃ r b l : Int, v = .agg #[.int .i64 r, .int .i64 b, .int .i64 l] := by
  obtain ⟨cs, rfl, hsz⟩ := okWide_cells Tryd.underlying41 cells41 hv
  obtain ⟨c0, c1, c2, rfl⟩ := list3 hsz
  obtain ⟨fuel, hf⟩ := h
  obtain ⟨r, b, l, rfl, rfl, rfl⟩ := trod_cap (c0 := c0) (c1 := c1) (c2 := c2) hf
  exact ⟨r, b, l, rfl⟩
set_option maxRecDepth 100000 in
theorem open_rule {r : Reach} {b0 : Nat} {v : Value} {d : DataW H} {p : List MemPlace} (hv : Value.okWide Tryd.prog W r b0 30 v) (h : DataW.Trod enc Tryd.prog W 0 (fun _ => true) held 30 v d p) :
    ∃ (least most : Int) (A : Option Addr) (n cp : Nat) (fs : List Fld), v = ruleV least most A n cp ∧ FRd W A n fs ∧ n ≤ cp ∧ n ≤ 9223372036854775807 ∧ ∀ f ∈ fs, f.wf := by
  obtain ⟨cs, rfl, hsz⟩ := okWide_cells Tryd.underlying30 cells30 hv
  obtain ⟨c0, c1, c2, rfl⟩ := list3 hsz
  obtain ⟨fuel, hf⟩ := h
  obtain ⟨least, most, A, n, cp, fs, rfl, rfl, rfl, h1, h2, h3, h4⟩ := trod_rule (c0 := c0) (c1 := c1) (c2 := c2) hf
  exact ⟨least, most, A, n, cp, fs, rfl, h1, h2, h3, h4⟩
set_option maxRecDepth 100000 in
theorem open_rd {r : Reach} {b0 : Nat} {v : Value} {d : DataW H} {p : List MemPlace} (hv : Value.okWide Tryd.prog W r b0 31 v) (h : DataW.Trod enc Tryd.prog W 0 (fun _ => true) held 31 v d p) :
    ∃ (A : Option Addr) (n cp : Nat) (bs : List UInt8), v = .slice A n cp ∧ Rd W A n bs ∧ n ≤ cp ∧ n ≤ 9223372036854775807 := by
  obtain ⟨A, n, c, rfl⟩ := okWide_slice Tryd.underlying31 hv
  obtain ⟨fuel, hf⟩ := h
  exact trod_rd hf
set_option maxRecDepth 100000 in
/-- Caps -/
theorem open_caps {r : Reach} {b0 : Nat} {v : Value} {d : DataW H} {p : List MemPlace} (hv : Value.okWide Tryd.prog W r b0 44 v) (h : DataW.Trod enc Tryd.prog W 0 (fun _ => true) held 44 v d p) :
    ∃ (r b l : Int) (A : Option Addr) (n cp : Nat) (fs : Nat → Bool) (rate burst : Int), v = .agg #[.int .i64 r, .int .i64 b, .int .i64 l, .slice A n cp, .int .i64 rate, .int .i64 burst] ∧ BRd W A n fs ∧ n ≤ cp ∧ n ≤ 9223372036854775807 := by
  obtain ⟨cs, rfl, hsz⟩ := okWide_cells Tryd.underlying44 cells44 hv
  obtain ⟨c0, c1, c2, c3, c4, c5, rfl⟩ := list6 hsz
  obtain ⟨fuel, hf⟩ := h
  obtain ⟨_, _, h0⟩ := trod_at Tryd.underlying44 hf 0 _ rfl 0 3 41 rfl rfl cells41 [c0, c1, c2] rfl
  obtain ⟨_, _, h1⟩ := trod_at Tryd.underlying44 hf 1 _ rfl 3 1 42 rfl rfl cells42 [c3] rfl
  obtain ⟨_, _, h2⟩ := trod_at Tryd.underlying44 hf 2 _ rfl 4 1 3 rfl rfl cells3 [c4] rfl
  obtain ⟨_, _, h3⟩ := trod_at Tryd.underlying44 hf 3 _ rfl 5 1 3 rfl rfl cells3 [c5] rfl
  obtain ⟨r, b, l, rfl, rfl, rfl⟩ := trod_cap h0
  obtain ⟨A, m, cp, fs, rfl, hB, hnc, hn⟩ := trod_brd h1
  obtain ⟨rate, e2, _, _⟩ := DataW.trod_int Tryd.underlying3 h2
  obtain ⟨burst, e3, _, _⟩ := DataW.trod_int Tryd.underlying3 h3
  injection e2 with e2
  injection e3 with e3
  subst e2 e3
  exact ⟨r, b, l, A, m, cp, fs, rate, burst, rfl, hB, hnc, hn⟩
set_option maxRecDepth 100000 in
/-- Wider -/
theorem open_wider {r : Reach} {b0 : Nat} {v : Value} {d : DataW H} {p : List MemPlace} (hv : Value.okWide Tryd.prog W r b0 34 v) (h : DataW.Trod enc Tryd.prog W 0 (fun _ => true) held 34 v d p) :
    ∃ (least most : Int) (A : Option Addr) (n cp : Nat) (fs : List Fld) (B : Option Addr) (m cb : Nat) (bs : List UInt8) (more fields : Int), v = .agg #[.int .i64 least, .int .i64 most, .slice A n cp, .slice B m cb, .int .u64 more, .int .i64 fields] ∧
      FRd W A n fs ∧ n ≤ cp ∧ n ≤ 9223372036854775807 ∧ (∀ f ∈ fs, f.wf) ∧ Rd W B m bs ∧ m ≤ cb ∧ m ≤ 9223372036854775807 ∧ (0 ≤ more ∧ more ≤ 18446744073709551615) ∧ (-9223372036854775808 ≤ fields ∧ fields ≤ 9223372036854775807) := by
  obtain ⟨cs, rfl, hsz⟩ := okWide_cells Tryd.underlying34 cells34 hv
  obtain ⟨c0, c1, c2, c3, c4, c5, rfl⟩ := list6 hsz
  obtain ⟨fuel, hf⟩ := h
  obtain ⟨_, _, h0⟩ := trod_at Tryd.underlying34 hf 0 _ rfl 0 3 30 rfl rfl cells30 [c0, c1, c2] rfl
  obtain ⟨_, _, h1⟩ := trod_at Tryd.underlying34 hf 1 _ rfl 3 1 31 rfl rfl cells31 [c3] rfl
  obtain ⟨_, _, h2⟩ := trod_at Tryd.underlying34 hf 2 _ rfl 4 1 32 rfl rfl cells32 [c4] rfl
  obtain ⟨_, _, h3⟩ := trod_at Tryd.underlying34 hf 3 _ rfl 5 1 3 rfl rfl cells3 [c5] rfl
  obtain ⟨least, most, A, m, cp, fs, rfl, rfl, rfl, g1, g2, g3, g4⟩ := trod_rule h0
  obtain ⟨B, mb, cb, bs, rfl, g5, g6, g7⟩ := trod_rd h1
  obtain ⟨more, e2, _, w2⟩ := DataW.trod_int Tryd.underlying32 h2
  obtain ⟨fields, e3, _, w3⟩ := DataW.trod_int Tryd.underlying3 h3
  injection e2 with e2
  injection e3 with e3
  subst e2 e3
  exact ⟨least, most, A, m, cp, fs, B, mb, cb, bs, more, fields, rfl, g1, g2, g3, g4, g5, g6, g7, wf_u64 w2, wf_i64 w3⟩
end
end Go.Proofs.YthappdipoofclaaDoor
