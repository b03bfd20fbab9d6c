/-
  THE WALK OF same: are two lists of instructions the same?
-/
import Derived.Test.YtdkhbnkhpebkkaaDoorRefCheck
import Derived.Laws.StructEq
import Derived.Deep.RegionHeld3
namespace Go.Proofs.YtdkhbnkhpebkkaaDoor
set_option linter.unusedSimpArgs false
set_option linter.unusedVariables false
open Go.RowKit
theorem part1 (t off : Nat) (xs : Array Value) (v : Value) (W : World) (ha : ∀ w, (isAgg t).run Tryd.prog w = .ok false w) (hx : xs[off]? = some v) : (part t xs off).run Tryd.prog W = .ok v W := by
  have : off < xs.size := by
    rcases Nat.lt_or_ge off xs.size with h | h
    · exact h
    · rw [Array.getElem?_eq_none h] at hx; cases hx
  simp [part, ha, hx, go_sem]
theorem eqf_more {d : Nat} {xs ys : Array Value} {f : Field} {fs : List Field} {a b : Value} {r s : Bool} {w : World} (hn : f.name ≠ "_") (ha : (part f.type xs f.offset).run Tryd.prog w = .ok a w) (hb : (part f.type ys f.offset).run Tryd.prog w = .ok b w)
    (he : (Op.equalIn d f.type a b).run Tryd.prog w = .ok r w) (hr : (Op.eqFields d xs ys fs).run Tryd.prog w = .ok s w) : (Op.eqFields d xs ys (f :: fs)).run Tryd.prog w = .ok (r && s) w := by
  rw [Op.eqFields]
  simp only [if_pos hn, Sem.run_bind, ha, hb, he, Result.andThen_ok]
  cases r
  · simp
  · simpa using hr
theorem eqf_done {d : Nat} {xs ys : Array Value} {w : World} : (Op.eqFields d xs ys []).run Tryd.prog w = .ok true w := by simp [Op.eqFields]
theorem isAgg5 (w : World) : (isAgg 5).run Tryd.prog w = .ok false w := by kernel_rfl
theorem eq46 (o a b c o' a' b' c' : Int) (W : World) : (Op.equalIn 10000 46 (.agg (ins4 o a b c)) (.agg (ins4 o' a' b' c'))).run Tryd.prog W = .ok (o == o' && (a == a' && (b == b' && (c == c' && true)))) W := by
  have hf : Tryd.prog.fieldsOf 46 = #[{ name := "Op", type := 5, offset := 0, embedded := false, tag := "", pkgPath := "", byteOffset := 0 }, { name := "A", type := 5, offset := 1, embedded := false, tag := "", pkgPath := "", byteOffset := 1 }, { name := "B", type := 5, offset := 2, embedded := false, tag := "", pkgPath := "", byteOffset := 2 }, { name := "C", type := 5, offset := 3, embedded := false, tag := "", pkgPath := "", byteOffset := 3 }] := by
    simp only [Program.fieldsOf, Tryd.underlying46]
  rw [show (10000 : Nat) = 9998 + 1 + 1 from rfl, run_equalIn_struct W (9998 + 1) 46 _ _ (by rw [hf]; exact Tryd.underlying46) (by kernel_rfl), hf]
  exact eqf_more (by decide) (part1 5 0 _ _ W isAgg5 rfl) (part1 5 0 _ _ W isAgg5 rfl) (run_equalIn_int W 9998 5 .u8 .u8 o o' Tryd.underlying5)
    (eqf_more (by decide) (part1 5 1 _ _ W isAgg5 rfl) (part1 5 1 _ _ W isAgg5 rfl) (run_equalIn_int W 9998 5 .u8 .u8 a a' Tryd.underlying5)
      (eqf_more (by decide) (part1 5 2 _ _ W isAgg5 rfl) (part1 5 2 _ _ W isAgg5 rfl) (run_equalIn_int W 9998 5 .u8 .u8 b b' Tryd.underlying5)
        (eqf_more (by decide) (part1 5 3 _ _ W isAgg5 rfl) (part1 5 3 _ _ W isAgg5 rfl) (run_equalIn_int W 9998 5 .u8 .u8 c c' Tryd.underlying5) eqf_done)))
theorem N8_inj {x y : UInt8} (h : N8 x = N8 y) : x = y := by
  unfold N8 at h
  exact UInt8.toNat_inj.1 (by omega)
open Classical in
theorem eqI (i j : Ins) (W : World) : (Op.equalIn 10000 46 (insV i) (insV j)).run Tryd.prog W = .ok (decide (i = j)) W := by
  rw [eq46]
  congr 1
  by_cases h : i = j
  · subst h
    simp
  · rw [decide_eq_false h]
    obtain ⟨o, a, b, c⟩ := i
    obtain ⟨o', a', b', c'⟩ := j
    by_cases h0 : N8 o = N8 o'
    · by_cases h1 : N8 a = N8 a'
      · by_cases h2 : N8 b = N8 b'
        · by_cases h3 : N8 c = N8 c'
          · exact absurd (by rw [N8_inj h0, N8_inj h1, N8_inj h2, N8_inj h3]) h
          · simp [h3]
        · simp [h2]
      · simp [h1]
    · simp [h0]
theorem load46run (ad : Addr) (i : Ins) (W : World) (hc : ∀ j v, (insA i)[j]? = some v → W.cell? (ad.add j) = some v) : (loadVar 46 ad).run Tryd.prog W = .ok (insV i) W :=
  run_loadVar_cells W 46 ad (insA i) _ Tryd.underlying46 rfl info46 hc

theorem load46op {S : World → Prop} {o : Oper} {a : Act} (x : Operand) (ty : TypeId) (ho : o.op = .load ty x) (ad : Addr) (hx : a.eval x = .pointer (some ad)) (i : Ins) (hS : ∀ W, S W → (loadVar ty ad).run Tryd.prog W = .ok (insV i) W) :
    ∀ W, S W → (execOp a.eval o).run Tryd.prog W = .ok (.value (insV i)) W := fun W hW => by
  unfold execOp
  simp only [ho, hx, Instr.loadAt, Instr.sureAddr, Sem.run_bind, Sem.run_pure, Result.andThen_ok, hS W hW]

set_option maxRecDepth 100000 in
set_option maxHeartbeats 1000000 in
open Classical in
theorem same_any (A : Option Addr) (n c : Nat) (l : List Ins) (B : Option Addr) (m d : Nat) (p : List Ins) (w : World) (hR : IRd w A n l) (hS : IRd w B m p) (hn : n ≤ 9223372036854775807) (hm : m ≤ 9223372036854775807) :
    Calls Tryd.prog 12 #[.slice A n c, .slice B m d] w fun e w' => e = .returned (.bool (decide (l = p))) ∧ Below w.heap.size w w' := by
  have hl := hR.len
  have hp := hS.len
  by_cases hnm : n = m
  · subst hnm
    have hyes : (∀ j : Nat, j < n → l[j]? = p[j]?) → decide (l = p) = true := fun h => by
      rw [decide_eq_true_iff]
      apply List.ext_getElem?
      intro j
      by_cases hj : j < n
      · exact h j hj
      · rw [List.getElem?_eq_none (by omega), List.getElem?_eq_none (by omega)]
    have hno : ∀ j : Nat, l[j]? ≠ p[j]? → decide (l = p) = false := fun j h => by
      rw [decide_eq_false_iff_not]
      intro e
      rw [e] at h
      exact h rfl
    have HY := Lib.hid hyes
    have HN := Lib.hid hno
    clear hyes hno hl hp
    go_enter Tryd.func12, Tryd.ntmps12
    go_wp2_with fail
    go_loopw [5] (fun i wr => ∃ (k a : Nat), k ≤ n ∧ i = .int .i64 (k : Int) ∧ Hid (∀ j : Nat, j < k → l[j]? = p[j]?) ∧ wr = w.drewN a) (fun i _ => n - (intOf i).toNat)
    case atStart => exact ⟨0, 0, Nat.zero_le _, rfl, Lib.hid (fun j hj => absurd hj (by omega)), rfl⟩
    case round =>
      obtain ⟨k, q, hk, rfl, hI, rfl⟩ := hrel
      by_cases hlt : k < n
      · obtain ⟨ad, i, rfl, hf, hc⟩ := hR.at_ hlt
        obtain ⟨bd, j, rfl, hf2, hc2⟩ := hS.at_ hlt
        have ld1 : ∀ N, (loadVar 46 (ad.add (k * 4))).run Tryd.prog (w.drewN N) = .ok (insV i) (w.drewN N) := fun N => load46run _ i _ hc
        have ld2 : ∀ N, (loadVar 46 (bd.add (k * 4))).run Tryd.prog (w.drewN N) = .ok (insV j) (w.drewN N) := fun N => load46run _ j _ hc2
        have hq := eqI i j
        clear hc hc2
        go_wp2
        refine wp_region_noPanic ?_
        refine wp_region_held_drew (S := fun W => ∃ N, W = w.drewN N) (by kernel_rfl) ⟨q + 1, rfl⟩ (fun hH => ?_)
        refine wpAnyH_take (i := 0) (oi := { dst := some 17, op := Op.move (Operand.tmp 0), type := 23, pos := "law.go:33", after := #[], guard := none }) (v := .slice (some ad) n c) rfl (by kernel_rfl) (by kernel_rfl) (by kernel_rfl) (fun _ _ _ h => h) (Or.inl ⟨by rfl, fun w hw => by go_simp⟩) hH ?_
        try simp only [Act.put, List.setIfInBounds_toArray, List.set_cons_zero, List.set_cons_succ]
        refine wpAnyH_take (i := 1) (oi := { dst := some 18, op := Op.move (Operand.tmp 5), type := 3, pos := "law.go:33", after := #[], guard := none }) (v := .int .i64 (k : Int)) rfl (by kernel_rfl) (by kernel_rfl) (by kernel_rfl) (fun _ _ _ h => h) (Or.inl ⟨by rfl, fun w hw => by go_simp⟩) hH ?_
        try simp only [Act.put, List.setIfInBounds_toArray, List.set_cons_zero, List.set_cons_succ]
        refine wpAnyH_take (i := 2) (oi := { dst := some 19, op := Op.indexAddr 23 (Operand.tmp 17) (Operand.tmp 18), type := 0, pos := "law.go:33", after := #[{ on := 0, ground := Ground.data }, { on := 1, ground := Ground.data }], guard := none }) (v := .pointer (some (ad.add (k * 4)))) rfl (by kernel_rfl) (by kernel_rfl) (by kernel_rfl) (fun _ _ _ h => h) (Or.inl ⟨by rfl, fun w hw => by go_simp⟩) hH ?_
        try simp only [Act.put, List.setIfInBounds_toArray, List.set_cons_zero, List.set_cons_succ]
        refine wpAnyH_take (i := 3) (oi := { dst := some 20, op := Op.load 46 (Operand.tmp 19), type := 46, pos := "law.go:33", after := #[{ on := 2, ground := Ground.data }], guard := none }) (v := insV i) rfl (by kernel_rfl) (by kernel_rfl) (by kernel_rfl) (fun _ _ _ h => h) (Or.inl ⟨by rfl, load46op _ _ rfl (ad.add (k * 4)) rfl i (fun W hW => by obtain ⟨N, rfl⟩ := hW; exact ld1 N)⟩) hH ?_
        try simp only [Act.put, List.setIfInBounds_toArray, List.set_cons_zero, List.set_cons_succ]
        refine wpAnyH_take (i := 4) (oi := { dst := some 21, op := Op.move (Operand.tmp 1), type := 23, pos := "law.go:33", after := #[], guard := none }) (v := .slice (some bd) n d) rfl (by kernel_rfl) (by kernel_rfl) (by kernel_rfl) (fun _ _ _ h => h) (Or.inl ⟨by rfl, fun w hw => by go_simp⟩) hH ?_
        try simp only [Act.put, List.setIfInBounds_toArray, List.set_cons_zero, List.set_cons_succ]
        refine wpAnyH_take (i := 5) (oi := { dst := some 22, op := Op.move (Operand.tmp 5), type := 3, pos := "law.go:33", after := #[], guard := none }) (v := .int .i64 (k : Int)) rfl (by kernel_rfl) (by kernel_rfl) (by kernel_rfl) (fun _ _ _ h => h) (Or.inl ⟨by rfl, fun w hw => by go_simp⟩) hH ?_
        try simp only [Act.put, List.setIfInBounds_toArray, List.set_cons_zero, List.set_cons_succ]
        refine wpAnyH_take (i := 6) (oi := { dst := some 23, op := Op.indexAddr 23 (Operand.tmp 21) (Operand.tmp 22), type := 0, pos := "law.go:33", after := #[{ on := 4, ground := Ground.data }, { on := 5, ground := Ground.data }], guard := none }) (v := .pointer (some (bd.add (k * 4)))) rfl (by kernel_rfl) (by kernel_rfl) (by kernel_rfl) (fun _ _ _ h => h) (Or.inl ⟨by rfl, fun w hw => by go_simp⟩) hH ?_
        try simp only [Act.put, List.setIfInBounds_toArray, List.set_cons_zero, List.set_cons_succ]
        refine wpAnyH_take (i := 7) (oi := { dst := some 24, op := Op.load 46 (Operand.tmp 23), type := 46, pos := "law.go:33", after := #[{ on := 6, ground := Ground.data }], guard := none }) (v := insV j) rfl (by kernel_rfl) (by kernel_rfl) (by kernel_rfl) (fun _ _ _ h => h) (Or.inl ⟨by rfl, load46op _ _ rfl (bd.add (k * 4)) rfl j (fun W hW => by obtain ⟨N, rfl⟩ := hW; exact ld2 N)⟩) hH ?_
        try simp only [Act.put, List.setIfInBounds_toArray, List.set_cons_zero, List.set_cons_succ]
        refine wpAnyH_take (i := 8) (oi := { dst := some 25, op := Op.binOp BinOp.neq 46 (Operand.tmp 20) (Operand.tmp 24) 46, type := 4, pos := "law.go:33", after := #[{ on := 3, ground := Ground.data }, { on := 7, ground := Ground.data }], guard := none }) (v := .bool (!(decide (i = j)))) rfl (by kernel_rfl) (by kernel_rfl) (by kernel_rfl) (fun _ _ _ h => h) (Or.inl ⟨by rfl, fun w hw => by go_simp⟩) hH ?_
        try simp only [Act.put, List.setIfInBounds_toArray, List.set_cons_zero, List.set_cons_succ]
        refine wpAnyH_done (by kernel_rfl) ?_ _
        refine NoPanic.normal ?_
        clear ld1 ld2 hq
        by_cases hij : i = j
        · rw [decide_eq_true hij]
          have hI2 : Hid (∀ x : Nat, x < k + 1 → l[x]? = p[x]?) := Lib.hid (fun x hx => by
            rcases Nat.lt_or_ge x k with h | h
            · exact hI.out x h
            · obtain rfl : x = k := by omega
              rw [hf, hf2, hij])
          clear hij hI hf hf2
          go_wp2
          go_roundw
          case rel => exact ⟨k + 1, q + 1, by omega, by go_num, hI2, rfl⟩
          case measure => simp [intOf]; omega
        · rw [decide_eq_false hij]
          have hF := Lib.hid (HN.out k (by rw [hf, hf2]; intro e; injection e with e; exact hij e))
          clear hij hI hf hf2
          go_wp2
          go_ret
          rw [hF.out]
          exact ⟨rfl, below_drewN (Below.refl _ _) (q + 1)⟩
      · obtain rfl : k = n := by omega
        have hF := Lib.hid (HY.out hI.out)
        clear hI
        go_wp2_with fail
        go_ret
        rw [hF.out]
        exact ⟨rfl, below_drewN (Below.refl _ _) q⟩
  · rw [show decide (l = p) = false from by
      rw [decide_eq_false_iff_not]
      intro e
      rw [e] at hl
      omega]
    have hne : ((n : Int) != (m : Int)) = true := by rw [bne_iff_ne]; omega
    clear hl hp hnm
    go_enter Tryd.func12, Tryd.ntmps12
    go_wp2
    go_ret
    exact ⟨rfl, Below.refl _ _⟩
end Go.Proofs.YtdkhbnkhpebkkaaDoor
