/-
  ONE STATEMENT OF Write, 'h.state = process(h.state, h.rest)': a region that leaves its order open, walked over any frame.
-/
import Derived.Test.YtljghknojbpccaaDoorHashA
namespace Go.Proofs.YtljghknojbpccaaDoor
set_option linter.unusedSimpArgs false
set_option linter.unusedVariables false
open Go.RowKit
abbrev o6_0 : Oper := { dst := some 36, op := Op.move (Operand.tmp 0), type := 29, pos := "sha.go:56", after := #[], guard := none }
abbrev o6_1 : Oper := { dst := some 37, op := Op.move (Operand.tmp 0), type := 29, pos := "sha.go:56", after := #[], guard := none }
abbrev o6_2 : Oper := { dst := some 38, op := Op.nilCheck (Operand.tmp 37), type := 0, pos := "sha.go:56", after := #[{ on := 1, ground := Ground.data }], guard := none }
abbrev o6_3 : Oper := { dst := some 39, op := Op.fieldAddr 49 (Operand.tmp 38) 0, type := 0, pos := "sha.go:56", after := #[{ on := 2, ground := Ground.data }], guard := none }
abbrev o6_4 : Oper := { dst := some 40, op := Op.load 44 (Operand.tmp 39), type := 44, pos := "sha.go:56", after := #[{ on := 3, ground := Ground.data }], guard := none }
abbrev o6_5 : Oper := { dst := some 41, op := Op.move (Operand.tmp 0), type := 29, pos := "sha.go:56", after := #[], guard := none }
abbrev o6_6 : Oper := { dst := some 42, op := Op.nilCheck (Operand.tmp 41), type := 0, pos := "sha.go:56", after := #[{ on := 5, ground := Ground.data }], guard := none }
abbrev o6_7 : Oper := { dst := some 43, op := Op.fieldAddr 49 (Operand.tmp 42) 1, type := 0, pos := "sha.go:56", after := #[{ on := 6, ground := Ground.data }], guard := none }
abbrev o6_8 : Oper := { dst := some 44, op := Op.load 47 (Operand.tmp 43), type := 47, pos := "sha.go:56", after := #[{ on := 7, ground := Ground.data }], guard := none }
abbrev o6_9 : Oper := { dst := some 45, op := Op.call { callee := Callee.value (Operand.func 23), args := #[Operand.tmp 40, Operand.tmp 44], argTypes := #[44, 47] }, type := 44, pos := "sha.go:56", after := #[{ on := 4, ground := Ground.data }, { on := 8, ground := Ground.data }], guard := none }
abbrev o6_10 : Oper := { dst := some 46, op := Op.nilCheck (Operand.tmp 36), type := 0, pos := "sha.go:56", after := #[{ on := 0, ground := Ground.data }, { on := 0, ground := Ground.phase }, { on := 1, ground := Ground.phase }, { on := 2, ground := Ground.phase }, { on := 3, ground := Ground.phase }, { on := 4, ground := Ground.phase }, { on := 5, ground := Ground.phase }, { on := 6, ground := Ground.phase }, { on := 7, ground := Ground.phase }, { on := 8, ground := Ground.phase }, { on := 9, ground := Ground.phase }], guard := none }
abbrev o6_11 : Oper := { dst := some 47, op := Op.fieldAddr 49 (Operand.tmp 46) 0, type := 0, pos := "sha.go:56", after := #[{ on := 10, ground := Ground.data }, { on := 0, ground := Ground.phase }, { on := 1, ground := Ground.phase }, { on := 2, ground := Ground.phase }, { on := 3, ground := Ground.phase }, { on := 4, ground := Ground.phase }, { on := 5, ground := Ground.phase }, { on := 6, ground := Ground.phase }, { on := 7, ground := Ground.phase }, { on := 8, ground := Ground.phase }, { on := 9, ground := Ground.phase }], guard := none }
abbrev o6_12 : Oper := { dst := none, op := Op.store 44 (Operand.tmp 47) (Operand.tmp 45), type := 0, pos := "sha.go:56", after := #[{ on := 11, ground := Ground.data }, { on := 9, ground := Ground.data }, { on := 9, ground := Ground.chain }, { on := 0, ground := Ground.phase }, { on := 1, ground := Ground.phase }, { on := 2, ground := Ground.phase }, { on := 3, ground := Ground.phase }, { on := 4, ground := Ground.phase }, { on := 5, ground := Ground.phase }, { on := 6, ground := Ground.phase }, { on := 7, ground := Ground.phase }, { on := 8, ground := Ground.phase }, { on := 9, ground := Ground.phase }], guard := none }
abbrev ops6 : Array Oper := #[o6_0, o6_1, o6_2, o6_3, o6_4, o6_5, o6_6, o6_7, o6_8, o6_9, o6_10, o6_11, o6_12]

theorem put_comm (a : Act) (i j : Nat) (hij : i ≠ j) (x y : Value) : (a.put (some i) x).put (some j) y = (a.put (some j) y).put (some i) x := by
  simp only [Act.put]
  rw [Array.setIfInBounds_comm _ _ hij]
theorem size_put (a : Act) (i : Nat) (x : Value) : (a.put (some i) x).tmps.size = a.tmps.size := by simp [Act.put]
theorem eval_put_eq (a : Act) (i : Nat) (x : Value) (h : i < a.tmps.size) : (a.put (some i) x).eval (.tmp i) = x := by simp [Act.put, Act.eval, h]
theorem eval_put_ne (a : Act) (i t : Nat) (x : Value) (h : i ≠ t) : (a.put (some i) x).eval (.tmp t) = a.eval (.tmp t) := by
  simp [Act.put, Act.eval, Array.getElem?_setIfInBounds, h]

/-- the frame ahead of the two loads -/
def act7 (a : Act) (g : Nat) : Act := ((((((a.put (some 36) (.pointer (some ⟨g, 0, none⟩))).put (some 37) (.pointer (some ⟨g, 0, none⟩))).put (some 38) (.pointer (some ⟨g, 0, none⟩))).put (some 39) (.pointer (some ⟨g, 0, none⟩))).put (some 41) (.pointer (some ⟨g, 0, none⟩))).put (some 42) (.pointer (some ⟨g, 0, none⟩))).put (some 43) (.pointer (some ⟨g, 8, none⟩))
/-- the frame behind the statement -/
def act13 (a : Act) (g : Nat) (x y z : Value) : Act := (((((act7 a g).put (some 40) x).put (some 44) y).put (some 45) z).put (some 46) (.pointer (some ⟨g, 0, none⟩))).put (some 47) (.pointer (some ⟨g, 0, none⟩))

section
variable (ρ : Operand → Value) (g : Nat) (w : World)
theorem y0 (h : ρ (.tmp 0) = (.pointer (some ⟨g, 0, none⟩))) : (execOp ρ o6_0).run Tryd.prog w = .ok (.value (.pointer (some ⟨g, 0, none⟩))) w := by simp [go_sem, h]
theorem y1 (h : ρ (.tmp 0) = (.pointer (some ⟨g, 0, none⟩))) : (execOp ρ o6_1).run Tryd.prog w = .ok (.value (.pointer (some ⟨g, 0, none⟩))) w := by simp [go_sem, h]
theorem y2 (h : ρ (.tmp 37) = (.pointer (some ⟨g, 0, none⟩))) : (execOp ρ o6_2).run Tryd.prog w = .ok (.value (.pointer (some ⟨g, 0, none⟩))) w := by simp [go_sem, h]
theorem y3 (h : ρ (.tmp 38) = (.pointer (some ⟨g, 0, none⟩))) : (execOp ρ o6_3).run Tryd.prog w = .ok (.value (.pointer (some ⟨g, 0, none⟩))) w := by simp [go_sem, h]
theorem y5 (h : ρ (.tmp 0) = (.pointer (some ⟨g, 0, none⟩))) : (execOp ρ o6_5).run Tryd.prog w = .ok (.value (.pointer (some ⟨g, 0, none⟩))) w := by simp [go_sem, h]
theorem y6 (h : ρ (.tmp 41) = (.pointer (some ⟨g, 0, none⟩))) : (execOp ρ o6_6).run Tryd.prog w = .ok (.value (.pointer (some ⟨g, 0, none⟩))) w := by simp [go_sem, h]
theorem y7 (h : ρ (.tmp 42) = (.pointer (some ⟨g, 0, none⟩))) : (execOp ρ o6_7).run Tryd.prog w = .ok (.value (.pointer (some ⟨g, 8, none⟩))) w := by simp [go_sem, h]
theorem y10 (h : ρ (.tmp 36) = (.pointer (some ⟨g, 0, none⟩))) : (execOp ρ o6_10).run Tryd.prog w = .ok (.value (.pointer (some ⟨g, 0, none⟩))) w := by simp [go_sem, h]
theorem y11 (h : ρ (.tmp 46) = (.pointer (some ⟨g, 0, none⟩))) : (execOp ρ o6_11).run Tryd.prog w = .ok (.value (.pointer (some ⟨g, 0, none⟩))) w := by simp [go_sem, h]
theorem y9 (x y : Value) (hx : ρ (.tmp 40) = x) (hy : ρ (.tmp 44) = y) (h : ρ (.func 23) = .func (.func 23) #[] #[]) : (execOp ρ o6_9).run Tryd.prog w = .ok (.enter 23 #[x, y]) w := by simp [go_sem, hx, hy, h]
end

/-- a stored variable's place in the block: a row of cells -/
theorem Blk.sub {w : World} {g : Nat} {t : TypeId} {cs xs : Array Value} (h : Blk w g t cs) (off : Nat) (hx : ∀ j v, xs[j]? = some v → cs[off + j]? = some v) : ∀ j v, xs[j]? = some v → w.cell? ((⟨g, off, none⟩ : Addr).add j) = some v := by
  intro j v hj
  rw [Addr.add_lit, h.cell]
  exact hx j v hj

set_option maxHeartbeats 400000 in
theorem region6 (a : Act) (hsz : a.tmps.size = 48) (g : Nat) (h0 : a.eval (.tmp 0) = (.pointer (some ⟨g, 0, none⟩))) (wx : World) (st : Sp.S8) (rst : List UInt8) (n : Nat) (hb : Blk wx g 49 (hashV st rst n)) (hr : rst.length = 64) (ht : Tables wx)
    (Q : Exit → Act → World → Prop) (hQp : ∀ c (a : Act) (i : Nat) v w, Q (.panic c) (a.put (some i) v) w → Q (.panic c) a w)
    (hQ : ∀ w', Blk w' g 49 (hashV (Sp.compress st rst) rst n) → wx.grownBy w' (some g) → Q .normal (act13 a g (.agg (s8V st)) (.agg (bytesV rst)) (.agg (s8V (Sp.compress st rst)))) w') :
    (Code.region 6 ops6 true).wp Tryd.prog Q a wx := by
  refine wp_region_any (by kernel_rfl) ?_
  change wpAny _ _ _ _ _ _ _ wx.drew
  have hbd := hb.drew
  have hs1 := size_put a 36 (.pointer (some ⟨g, 0, none⟩))
  refine wpAny_take (i := 0) (oi := o6_0) (v := (.pointer (some ⟨g, 0, none⟩))) rfl (by kernel_rfl) (by kernel_rfl) (by kernel_rfl) (fun _ _ _ h => hQp _ _ _ _ _ h) (Or.inl ⟨rfl, fun w => y0 _ g w h0⟩) ?_
  refine wpAny_take (i := 1) (oi := o6_1) (v := (.pointer (some ⟨g, 0, none⟩))) rfl (by kernel_rfl) (by kernel_rfl) (by kernel_rfl) (fun _ _ _ h => hQp _ _ _ _ _ h) (Or.inl ⟨rfl, fun w => y1 _ g w (by simp [eval_put_ne, h0])⟩) ?_
  refine wpAny_take (i := 2) (oi := o6_2) (v := (.pointer (some ⟨g, 0, none⟩))) rfl (by kernel_rfl) (by kernel_rfl) (by kernel_rfl) (fun _ _ _ h => hQp _ _ _ _ _ h) (Or.inl ⟨rfl, fun w => y2 _ g w (by simp [eval_put_ne, eval_put_eq, size_put, hsz])⟩) ?_
  refine wpAny_take (i := 3) (oi := o6_3) (v := (.pointer (some ⟨g, 0, none⟩))) rfl (by kernel_rfl) (by kernel_rfl) (by kernel_rfl) (fun _ _ _ h => hQp _ _ _ _ _ h) (Or.inl ⟨rfl, fun w => y3 _ g w (by simp [eval_put_ne, eval_put_eq, size_put, hsz])⟩) ?_
  refine wpAny_take (i := 5) (oi := o6_5) (v := (.pointer (some ⟨g, 0, none⟩))) rfl (by kernel_rfl) (by kernel_rfl) (by kernel_rfl) (fun _ _ _ h => hQp _ _ _ _ _ h) (Or.inl ⟨rfl, fun w => y5 _ g w (by simp [eval_put_ne, h0])⟩) ?_
  refine wpAny_take (i := 6) (oi := o6_6) (v := (.pointer (some ⟨g, 0, none⟩))) rfl (by kernel_rfl) (by kernel_rfl) (by kernel_rfl) (fun _ _ _ h => hQp _ _ _ _ _ h) (Or.inl ⟨rfl, fun w => y6 _ g w (by simp [eval_put_ne, eval_put_eq, size_put, hsz])⟩) ?_
  refine wpAny_take (i := 7) (oi := o6_7) (v := (.pointer (some ⟨g, 8, none⟩))) rfl (by kernel_rfl) (by kernel_rfl) (by kernel_rfl) (fun _ _ _ h => hQp _ _ _ _ _ h) (Or.inl ⟨rfl, fun w => y7 _ g w (by simp [eval_put_ne, eval_put_eq, size_put, hsz])⟩) ?_
  change wpAny _ _ _ _ _ _ (act7 a g) _
  have h7s : (act7 a g).tmps.size = 48 := by simp [act7, size_put, hsz]
  have e39 : (act7 a g).eval (.tmp 39) = (.pointer (some ⟨g, 0, none⟩)) := by simp [act7, eval_put_ne, eval_put_eq, size_put, hsz]
  have e43 : (act7 a g).eval (.tmp 43) = (.pointer (some ⟨g, 8, none⟩)) := by simp [act7, eval_put_eq, size_put, hsz]
  have e36 : (act7 a g).eval (.tmp 36) = (.pointer (some ⟨g, 0, none⟩)) := by simp [act7, eval_put_ne, eval_put_eq, size_put, hsz]
  generalize hA7 : act7 a g = b at h7s e39 e43 e36
  have hst := hbd.sub 0 (xs := s8V st) (fun j v hj => by rw [Nat.zero_add]; exact hashV_state st rst n j v hj)
  have hrs := hbd.sub 8 (xs := bytesV rst) (fun j v hj => hashV_rest st rst n j v hj)
  have key : wpAny Tryd.prog .any ops6 Q 4 #[true, true, true, true, true, true, true, true, true, false, false, false, false] ((b.put (some 40) (.agg (s8V st))).put (some 44) (.agg (bytesV rst))) wx.drew := by
    have e40 : ((b.put (some 40) (.agg (s8V st))).put (some 44) (.agg (bytesV rst))).eval (.tmp 40) = .agg (s8V st) := by simp [eval_put_ne, eval_put_eq, h7s]
    have e44 : ((b.put (some 40) (.agg (s8V st))).put (some 44) (.agg (bytesV rst))).eval (.tmp 44) = .agg (bytesV rst) := by simp [eval_put_eq, size_put, h7s]
    have e36' : ((b.put (some 40) (.agg (s8V st))).put (some 44) (.agg (bytesV rst))).eval (.tmp 36) = (.pointer (some ⟨g, 0, none⟩)) := by simp [eval_put_ne, e36]
    have hsz' : ((b.put (some 40) (.agg (s8V st))).put (some 44) (.agg (bytesV rst))).tmps.size = 48 := by simp [size_put, h7s]
    generalize hc : (b.put (some 40) (.agg (s8V st))).put (some 44) (.agg (bytesV rst)) = c at e40 e44 e36' hsz'
    refine wpAny_ready (rs := [9]) (by kernel_rfl) (by simp) ?_
    refine AllReady.cons (o := o6_9) rfl (fun K hK => ?_) AllReady.nil
    have hw : Region.wanted o6_9 (yielded ops6 c.tmps) = true := rfl
    rw [if_pos hw]
    unfold Oper.wp
    rw [y9 c.eval wx.drew _ _ e40 e44 rfl, Oper.upon_enter]
    refine (process_any st rst hr wx.drew (ht.below (Below.refl wx.heap.size wx).drew ht.size)).mono ?_
    rintro e w1 ⟨rfl, hbl⟩
    refine hK _ _ ?_
    have hb1 : Blk w1 g 49 (hashV st rst n) := hbd.below hbl hbd.lt
    refine (congrArg (fun l => wpAny Tryd.prog .any ops6 Q 3 l _ _) (by kernel_rfl : _ = #[true, true, true, true, true, true, true, true, true, true, false, false, false])).mpr ?_
    refine wpAny_take (i := 10) (oi := o6_10) (v := (.pointer (some ⟨g, 0, none⟩))) rfl (by kernel_rfl) (by kernel_rfl) (by kernel_rfl) (fun _ _ _ h => hQp _ _ _ _ _ h) (Or.inl ⟨rfl, fun w => y10 _ g w (by simp [eval_put_ne, e36'])⟩) ?_
    refine wpAny_take (i := 11) (oi := o6_11) (v := (.pointer (some ⟨g, 0, none⟩))) rfl (by kernel_rfl) (by kernel_rfl) (by kernel_rfl) (fun _ _ _ h => hQp _ _ _ _ _ h) (Or.inl ⟨rfl, fun w => y11 _ g w (by simp [eval_put_eq, size_put, hsz'])⟩) ?_
    refine wpAny_ready (rs := [12]) (by kernel_rfl) (by simp) ?_
    refine AllReady.cons (o := o6_12) rfl (fun K hK => step_store_at (o := o6_12) rfl 44 (.tmp 47) (.tmp 45) rfl g 0 (by simp [eval_put_eq, size_put, hsz']) (s8V (Sp.compress st rst)) (by simp [eval_put_ne, eval_put_eq, size_put, hsz']) 49 (hashV st rst n) hb1 info44 (by rw [hashV_size, hr]; simp [s8V]) (s8V_one _) (hK _ _ ?_)) AllReady.nil
    rw [hashV_setState]
    refine wpAny_done (by kernel_rfl) ?_ _
    have hfin := hQ (w1.setRow g (hashV (Sp.compress st rst) rst n)) (hb1.setRow _) (only_setRow (only_of_below ((Below.refl wx.heap.size wx).drew.trans hbl) _) (.inl rfl) _)
    rw [act13, hA7, hc] at hfin
    exact hfin
  refine wpAny_ready (rs := [4, 8]) (by kernel_rfl) (by simp) ?_
  refine AllReady.cons (o := o6_4) rfl (fun K hK => step_load_cells (o := o6_4) rfl 44 (.tmp 39) rfl ⟨g, 0, none⟩ e39 (s8V st) _ Tryd.underlying44 rfl info44 hst (hK _ _ ?_)) (AllReady.cons (o := o6_8) rfl (fun K hK => step_load_cells (o := o6_8) rfl 47 (.tmp 43) rfl ⟨g, 8, none⟩ e43 (bytesV rst) _ Tryd.underlying47 rfl (by rw [bytesV_size, hr]; exact info47) hrs (hK _ _ ?_)) AllReady.nil)
  · refine wpAny_ready (rs := [8]) (by kernel_rfl) (by simp) ?_
    refine AllReady.cons (o := o6_8) rfl (fun K hK => step_load_cells (o := o6_8) rfl 47 (.tmp 43) rfl ⟨g, 8, none⟩ (by rw [eval_put_ne _ _ _ _ (by omega)]; exact e43) (bytesV rst) _ Tryd.underlying47 rfl (by rw [bytesV_size, hr]; exact info47) hrs (hK _ _ ?_)) AllReady.nil
    exact (congrArg (fun l => wpAny Tryd.prog .any ops6 Q 4 l _ _) (by kernel_rfl : _ = #[true, true, true, true, true, true, true, true, true, false, false, false, false])).mpr key
  · refine wpAny_ready (rs := [4]) (by kernel_rfl) (by simp) ?_
    refine AllReady.cons (o := o6_4) rfl (fun K hK => step_load_cells (o := o6_4) rfl 44 (.tmp 39) rfl ⟨g, 0, none⟩ (by rw [eval_put_ne _ _ _ _ (by omega)]; exact e39) (s8V st) _ Tryd.underlying44 rfl info44 hst (hK _ _ ?_)) AllReady.nil
    rw [put_comm b 40 44 (by omega)] at key
    exact (congrArg (fun l => wpAny Tryd.prog .any ops6 Q 4 l _ _) (by kernel_rfl : _ = #[true, true, true, true, true, true, true, true, true, false, false, false, false])).mpr key
end Go.Proofs.YtljghknojbpccaaDoor
