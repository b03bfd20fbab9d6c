/-
  THE WALK OF ShaBack.
-/
import Derived.Test.YtljghknojbpccaaDoorEql
import Derived.Test.YtljghknojbpccaaDoorBackP
namespace Go.Proofs.YtljghknojbpccaaDoor
set_option linter.unusedSimpArgs false
set_option linter.unusedVariables false
open Go.RowKit

theorem load24g {ops : Array Oper} {rest : List Oper} {o : Oper} {a : Act} {w : World} {Q : Exit → Act → World → Prop} (hw : Region.wanted o (yielded ops a.tmps) = true) (x : Operand) (ho : o.op = .load 24 x) (g : Nat) (hx : a.eval x = .pointer (some ⟨g, 0, none⟩)) (cs : Array Value) (hb : Blk w g 24 cs) (hs : cs.size = 32)
    (h : wpList Tryd.prog ops Q rest (a.put o.dst (.agg cs)) w) : wpList Tryd.prog ops Q (o :: rest) a w :=
  wpList_step fun K hK => by
    rw [if_pos hw]
    exact wp_load_row 24 x ho g hx 24 cs (0, 0) _ hb Tryd.underlying24 rfl (by rw [hs]; exact info24) (hK _ _ h)

/-- one operation of a plain region that yields its value -/
theorem wpList_take {P : Program} {ops : Array Oper} {Q : Exit → Act → World → Prop} {a : Act} {w : World} {rest : List Oper} {o : Oper} {v : Value}
    (hy : YieldsIf P ops (fun w' => w' = w) o v a) (h : wpList P ops Q rest (a.put o.dst v) w) : wpList P ops Q (o :: rest) a w := by
  unfold wpList
  rcases hy with ⟨hw, hv⟩ | ⟨hw, rfl⟩
  · rw [if_pos hw]
    unfold Oper.wp
    rw [hv w rfl]
    exact .inl h
  · rw [if_neg (by rw [hw]; simp)]
    exact h

set_option maxRecDepth 100000 in
set_option maxHeartbeats 4000000 in
theorem shaBack_walk (l : List UInt8) (hl : l.length = 32) (s : ByteArray) (w : World) (ht : Tables w) :
    Calls Tryd.prog 7 #[.agg (bytesV l), .string s] w fun e w' => e = .returned (.bool true) ∧ Below w.heap.size w w' := by
  have hsz := ht.size
  have hls : (bytesV l).size = 32 := by rw [bytesV_size]; exact hl
  have hb0 := (Below.refl w.heap.size w).alloc (Nat.le_refl _) (.cells (bytesV l) 24)
  have hr0 := Blk.new w 24 (bytesV l)
  go_enter Tryd.func7, Tryd.ntmps7
  go_wp2_with (refine load24 rfl (.tmp 2) rfl w.heap.size rfl (bytesV l) hr0 hls ?_)
  generalize w.alloc (.cells (bytesV l) 24) = w0 at *
  refine (hex_any l hl w0).mono ?_
  rintro e w1 ⟨rfl, hb1⟩
  have hbel1 := hb0.trans (hb1.mono hb0.size)
  have hr1 := hr0.below hb1 hr0.lt
  go_wp2_with fail
  refine (unhex_any _ w1).mono ?_
  rintro e w2 ⟨X1, k1, rfl, hb2, hu1⟩
  have hX1 : X1 = l ∧ k1 = 0 := by
    have hy : Un (Sp.hexL l) (Sp.uh (Sp.hexL l) 64) 0 := Un.yes (by rw [Sp.hexL_length, hl]) (Sp.good_hexL l hl)
    rw [Sp.back_sum l hl] at hy
    have hu1' : Un (Sp.hexL l) X1 k1 := hu1
    exact hy.same hu1'
  obtain ⟨rfl, rfl⟩ := hX1
  clear hu1
  have hbel2 := hbel1.trans (hb2.mono hbel1.size)
  have hr2 := hr1.below hb2 hr1.lt
  go_wp2_with (refine store24_new w2 _ rfl (.tmp 5) (.tmp 13) rfl rfl (bytesV X1) rfl hls (bytesV_one _) (by rfl) ?_; intro w3 hrA hb23)
  have hbel3 := hbel2.trans (hb23.mono hbel2.size)
  have hr3 := hr2.below hb23 hr2.lt
  refine (unhex_any s w3).mono ?_
  rintro e w4 ⟨X, k, rfl, hb4, hu⟩
  have hX := hu.len
  have hXs : (bytesV X).size = 32 := by rw [bytesV_size]; exact hX
  have hbel4 := hbel3.trans (hb4.mono hbel3.size)
  have hr4 := hr3.below hb4 hr3.lt
  have hrA4 := hrA.below hb4 hrA.lt
  have e0 : ∀ W, (Op.equalIn 10000 24 (.agg (bytesV X1)) (.agg (bytesV X1))).run Tryd.prog W = .ok true W := fun W => by
    have := eq24 X1 X1 hl hl W
    rwa [beq_self_eq_true] at this
  have e1 : ∀ W, (Op.equalIn 10000 24 (.agg (bytesV X)) (.agg (bytesV X))).run Tryd.prog W = .ok true W := fun W => by
    have := eq24 X X hX hX W
    rwa [beq_self_eq_true] at this
  have hoX : (bytesV X).all (·.oneCell') = true := bytesV_one X
  have c19 := fun W => hex_any X hX W
  rcases hu.ex with ⟨a1, a2, a3, rfl⟩ | ⟨n1, a3, rfl⟩
  · have hback : (⟨(Sp.hexL X).toArray⟩ : ByteArray) = s := by
      rw [a3, Sp.back_text _ a1 a2]
    rw [hback] at c19
    clear e1 a3 a1 a2 hu hback hl hX hr0 hr1 hr2 hr3 hrA
    generalize bytesV X1 = V1 at *
    generalize bytesV X = V at *
    have E0 := Lib.hid e0
    clear e0
    go_upto_region 3 with (refine store24_new w4 _ rfl (.tmp 7) (.tmp 18) rfl rfl V rfl hXs hoX (by rfl) ?_; intro w5 hrB hb45)
    have hbel5 := hbel4.trans (hb45.mono hbel4.size)
    have hr5 := hr4.below hb45 hr4.lt
    have hrA5 := hrA4.below hb45 hrA4.lt
    apply wp_region_lit
    refine load24g (by rfl) (.tmp 5) rfl w2.heap.size rfl V1 hrA5 hls ?_
    try simp only [Act.put, List.setIfInBounds_toArray, List.set_cons_zero, List.set_cons_succ]
    refine load24g (by rfl) (.tmp 2) rfl w.heap.size rfl V1 hr5 hls ?_
    try simp only [Act.put, List.setIfInBounds_toArray, List.set_cons_zero, List.set_cons_succ]
    refine eql24w (by rfl) (.tmp 20) (.tmp 21) rfl V1 V1 rfl rfl E0.out ?_
    try simp only [Act.put, List.setIfInBounds_toArray, List.set_cons_zero, List.set_cons_succ]
    refine wpList_take (v := .bool true) (Or.inl ⟨by rfl, fun w hw => by go_simp⟩) ?_
    try simp only [Act.put, List.setIfInBounds_toArray, List.set_cons_zero, List.set_cons_succ]
    refine wpList_take (v := .int .i64 0) (Or.inl ⟨by rfl, fun w hw => by go_simp⟩) ?_
    try simp only [Act.put, List.setIfInBounds_toArray, List.set_cons_zero, List.set_cons_succ]
    refine wpList_take (v := .bool true) (Or.inl ⟨by rfl, fun w hw => by go_simp⟩) ?_
    try simp only [Act.put, List.setIfInBounds_toArray, List.set_cons_zero, List.set_cons_succ]
    refine wpList_take (v := .bool true) (Or.inl ⟨by rfl, fun w hw => by go_simp⟩) ?_
    try simp only [Act.put, List.setIfInBounds_toArray, List.set_cons_zero, List.set_cons_succ]
    refine wpList_take (v := .bool true) (Or.inl ⟨by rfl, fun w hw => by go_simp⟩) ?_
    try simp only [Act.put, List.setIfInBounds_toArray, List.set_cons_zero, List.set_cons_succ]
    refine wpList_take (v := .int .i64 0) (Or.inl ⟨by rfl, fun w hw => by go_simp⟩) ?_
    try simp only [Act.put, List.setIfInBounds_toArray, List.set_cons_zero, List.set_cons_succ]
    refine wpList_take (v := .bool false) (Or.inl ⟨by rfl, fun w hw => by go_simp⟩) ?_
    try simp only [Act.put, List.setIfInBounds_toArray, List.set_cons_zero, List.set_cons_succ]
    refine wpList_take (v := .bool false) (Or.inl ⟨by rfl, fun w hw => by go_simp⟩) ?_
    try simp only [Act.put, List.setIfInBounds_toArray, List.set_cons_zero, List.set_cons_succ]
    go_skip
    refine wpList_take (v := .bool false) (Or.inl ⟨by rfl, fun w hw => by go_simp⟩) ?_
    try simp only [Act.put, List.setIfInBounds_toArray, List.set_cons_zero, List.set_cons_succ]
    refine wpList_take (v := .bool false) (Or.inl ⟨by rfl, fun w hw => by go_simp⟩) ?_
    try simp only [Act.put, List.setIfInBounds_toArray, List.set_cons_zero, List.set_cons_succ]
    refine wpList_take (v := .int .i64 0) (Or.inl ⟨by rfl, fun w hw => by go_simp⟩) ?_
    try simp only [Act.put, List.setIfInBounds_toArray, List.set_cons_zero, List.set_cons_succ]
    refine wpList_take (v := .bool true) (Or.inl ⟨by rfl, fun w hw => by go_simp⟩) ?_
    try simp only [Act.put, List.setIfInBounds_toArray, List.set_cons_zero, List.set_cons_succ]
    refine wpList_take (v := .bool true) (Or.inl ⟨by rfl, fun w hw => by go_simp⟩) ?_
    try simp only [Act.put, List.setIfInBounds_toArray, List.set_cons_zero, List.set_cons_succ]
    refine load24g (by rfl) (.tmp 7) rfl w4.heap.size rfl V hrB hXs ?_
    try simp only [Act.put, List.setIfInBounds_toArray, List.set_cons_zero, List.set_cons_succ]
    refine wpList_step (fun K hK => ?_)
    go_simp
    refine (c19 w5).mono ?_
    rintro e w6 ⟨rfl, hb6⟩
    refine hK _ _ ?_
    clear hK K
    have hbel6 := hbel5.trans (hb6.mono hbel5.size)
    try simp only [Act.put, List.setIfInBounds_toArray, List.set_cons_zero, List.set_cons_succ]
    refine wpList_take (v := .string s) (Or.inl ⟨by rfl, fun w hw => by go_simp⟩) ?_
    try simp only [Act.put, List.setIfInBounds_toArray, List.set_cons_zero, List.set_cons_succ]
    refine wpList_take (v := .bool true) (Or.inl ⟨by rfl, fun w hw => by go_simp⟩) ?_
    try simp only [Act.put, List.setIfInBounds_toArray, List.set_cons_zero, List.set_cons_succ]
    refine wpList_take (v := .bool true) (Or.inl ⟨by rfl, fun w hw => by go_simp⟩) ?_
    try simp only [Act.put, List.setIfInBounds_toArray, List.set_cons_zero, List.set_cons_succ]
    refine wpList_take (v := .bool true) (Or.inl ⟨by rfl, fun w hw => by go_simp⟩) ?_
    try simp only [Act.put, List.setIfInBounds_toArray, List.set_cons_zero, List.set_cons_succ]
    refine wpList_take (v := .bool true) (Or.inl ⟨by rfl, fun w hw => by go_simp⟩) ?_
    try simp only [Act.put, List.setIfInBounds_toArray, List.set_cons_zero, List.set_cons_succ]
    refine wpList_take (v := .bool true) (Or.inl ⟨by rfl, fun w hw => by go_simp⟩) ?_
    try simp only [Act.put, List.setIfInBounds_toArray, List.set_cons_zero, List.set_cons_succ]
    refine wpList_step (fun K hK => ?_)
    go_simp
    refine (awake_any w6 (ht.below hbel6 hsz)).mono ?_
    rintro e w7 ⟨rfl, hb7⟩
    refine hK _ _ ?_
    clear hK K
    have hbel7 := hbel6.trans (hb7.mono hbel6.size)
    try simp only [Act.put, List.setIfInBounds_toArray, List.set_cons_zero, List.set_cons_succ]
    refine wpList_take (v := .bool true) (Or.inl ⟨by rfl, fun w hw => by go_simp⟩) ?_
    try simp only [Act.put, List.setIfInBounds_toArray, List.set_cons_zero, List.set_cons_succ]
    refine wpList_take (v := .bool true) (Or.inl ⟨by rfl, fun w hw => by go_simp⟩) ?_
    try simp only [Act.put, List.setIfInBounds_toArray, List.set_cons_zero, List.set_cons_succ]
    refine wpList_nil ?_
    go_wp2_with fail
    go_ret
    exact ⟨rfl, hbel7⟩
  · have eZ : ∀ W, (Op.equalIn 10000 24 (.agg (bytesV X)) (.agg #[Value.int .u8 0, .int .u8 0, .int .u8 0, .int .u8 0, .int .u8 0, .int .u8 0, .int .u8 0, .int .u8 0, .int .u8 0, .int .u8 0, .int .u8 0, .int .u8 0, .int .u8 0, .int .u8 0, .int .u8 0, .int .u8 0, .int .u8 0, .int .u8 0, .int .u8 0, .int .u8 0, .int .u8 0, .int .u8 0, .int .u8 0, .int .u8 0, .int .u8 0, .int .u8 0, .int .u8 0, .int .u8 0, .int .u8 0, .int .u8 0, .int .u8 0, .int .u8 0])).run Tryd.prog W = .ok true W := fun W => by
      have := e1 W
      rw [show Value.agg (bytesV X) = Value.agg (bytesV (List.replicate 32 0)) from by rw [a3]] at this ⊢
      rw [zeros24]
      exact this
    clear a3 n1 hu e1 hl hX hr0 hr1 hr2 hr3 hrA c19
    generalize bytesV X1 = V1 at *
    generalize bytesV X = V at *
    have E0 := Lib.hid e0
    have EZ := Lib.hid eZ
    clear e0 eZ
    go_upto_region 3 with (refine store24_new w4 _ rfl (.tmp 7) (.tmp 18) rfl rfl V rfl hXs hoX (by rfl) ?_; intro w5 hrB hb45)
    have hbel5 := hbel4.trans (hb45.mono hbel4.size)
    have hr5 := hr4.below hb45 hr4.lt
    have hrA5 := hrA4.below hb45 hrA4.lt
    apply wp_region_lit
    refine load24g (by rfl) (.tmp 5) rfl w2.heap.size rfl V1 hrA5 hls ?_
    try simp only [Act.put, List.setIfInBounds_toArray, List.set_cons_zero, List.set_cons_succ]
    refine load24g (by rfl) (.tmp 2) rfl w.heap.size rfl V1 hr5 hls ?_
    try simp only [Act.put, List.setIfInBounds_toArray, List.set_cons_zero, List.set_cons_succ]
    refine eql24w (by rfl) (.tmp 20) (.tmp 21) rfl V1 V1 rfl rfl E0.out ?_
    try simp only [Act.put, List.setIfInBounds_toArray, List.set_cons_zero, List.set_cons_succ]
    refine wpList_take (v := .bool true) (Or.inl ⟨by rfl, fun w hw => by go_simp⟩) ?_
    try simp only [Act.put, List.setIfInBounds_toArray, List.set_cons_zero, List.set_cons_succ]
    refine wpList_take (v := .int .i64 0) (Or.inl ⟨by rfl, fun w hw => by go_simp⟩) ?_
    try simp only [Act.put, List.setIfInBounds_toArray, List.set_cons_zero, List.set_cons_succ]
    refine wpList_take (v := .bool true) (Or.inl ⟨by rfl, fun w hw => by go_simp⟩) ?_
    try simp only [Act.put, List.setIfInBounds_toArray, List.set_cons_zero, List.set_cons_succ]
    refine wpList_take (v := .bool true) (Or.inl ⟨by rfl, fun w hw => by go_simp⟩) ?_
    try simp only [Act.put, List.setIfInBounds_toArray, List.set_cons_zero, List.set_cons_succ]
    refine wpList_take (v := .bool true) (Or.inl ⟨by rfl, fun w hw => by go_simp⟩) ?_
    try simp only [Act.put, List.setIfInBounds_toArray, List.set_cons_zero, List.set_cons_succ]
    refine wpList_take (v := .int .i64 3) (Or.inl ⟨by rfl, fun w hw => by go_simp⟩) ?_
    try simp only [Act.put, List.setIfInBounds_toArray, List.set_cons_zero, List.set_cons_succ]
    refine wpList_take (v := .bool true) (Or.inl ⟨by rfl, fun w hw => by go_simp⟩) ?_
    try simp only [Act.put, List.setIfInBounds_toArray, List.set_cons_zero, List.set_cons_succ]
    refine wpList_take (v := .bool true) (Or.inl ⟨by rfl, fun w hw => by go_simp⟩) ?_
    try simp only [Act.put, List.setIfInBounds_toArray, List.set_cons_zero, List.set_cons_succ]
    refine load24g (by rfl) (.tmp 7) rfl w4.heap.size rfl V hrB hXs ?_
    try simp only [Act.put, List.setIfInBounds_toArray, List.set_cons_zero, List.set_cons_succ]
    refine wpList_take (v := .agg #[Value.int .u8 0, .int .u8 0, .int .u8 0, .int .u8 0, .int .u8 0, .int .u8 0, .int .u8 0, .int .u8 0, .int .u8 0, .int .u8 0, .int .u8 0, .int .u8 0, .int .u8 0, .int .u8 0, .int .u8 0, .int .u8 0, .int .u8 0, .int .u8 0, .int .u8 0, .int .u8 0, .int .u8 0, .int .u8 0, .int .u8 0, .int .u8 0, .int .u8 0, .int .u8 0, .int .u8 0, .int .u8 0, .int .u8 0, .int .u8 0, .int .u8 0, .int .u8 0]) (Or.inl ⟨by rfl, fun w hw => by go_simp⟩) ?_
    try simp only [Act.put, List.setIfInBounds_toArray, List.set_cons_zero, List.set_cons_succ]
    refine eql24w (by rfl) (.tmp 31) (.tmp 32) rfl V _ rfl rfl EZ.out ?_
    try simp only [Act.put, List.setIfInBounds_toArray, List.set_cons_zero, List.set_cons_succ]
    refine wpList_take (v := .bool true) (Or.inl ⟨by rfl, fun w hw => by go_simp⟩) ?_
    try simp only [Act.put, List.setIfInBounds_toArray, List.set_cons_zero, List.set_cons_succ]
    refine wpList_take (v := .bool true) (Or.inl ⟨by rfl, fun w hw => by go_simp⟩) ?_
    try simp only [Act.put, List.setIfInBounds_toArray, List.set_cons_zero, List.set_cons_succ]
    go_skip
    refine wpList_take (v := .bool true) (Or.inl ⟨by rfl, fun w hw => by go_simp⟩) ?_
    try simp only [Act.put, List.setIfInBounds_toArray, List.set_cons_zero, List.set_cons_succ]
    refine wpList_take (v := .bool true) (Or.inl ⟨by rfl, fun w hw => by go_simp⟩) ?_
    try simp only [Act.put, List.setIfInBounds_toArray, List.set_cons_zero, List.set_cons_succ]
    refine wpList_take (v := .bool true) (Or.inl ⟨by rfl, fun w hw => by go_simp⟩) ?_
    try simp only [Act.put, List.setIfInBounds_toArray, List.set_cons_zero, List.set_cons_succ]
    refine wpList_step (fun K hK => ?_)
    go_simp
    refine (awake_any w5 (ht.below hbel5 hsz)).mono ?_
    rintro e w7 ⟨rfl, hb7⟩
    refine hK _ _ ?_
    clear hK K
    have hbel7 := hbel5.trans (hb7.mono hbel5.size)
    try simp only [Act.put, List.setIfInBounds_toArray, List.set_cons_zero, List.set_cons_succ]
    refine wpList_take (v := .bool true) (Or.inl ⟨by rfl, fun w hw => by go_simp⟩) ?_
    try simp only [Act.put, List.setIfInBounds_toArray, List.set_cons_zero, List.set_cons_succ]
    refine wpList_take (v := .bool true) (Or.inl ⟨by rfl, fun w hw => by go_simp⟩) ?_
    try simp only [Act.put, List.setIfInBounds_toArray, List.set_cons_zero, List.set_cons_succ]
    refine wpList_nil ?_
    go_wp2_with fail
    go_ret
    exact ⟨rfl, hbel7⟩
end Go.Proofs.YtljghknojbpccaaDoor
