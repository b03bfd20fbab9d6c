/-
  THE WALK OF awake: the chapter's examples.
-/
import Derived.Test.YthappdipoofclaaDoorPassB
import Derived.Test.YthappdipoofclaaDoorCap
namespace Go.Proofs.YthappdipoofclaaDoor
set_option linter.unusedSimpArgs false
set_option linter.unusedVariables false
open Go.RowKit

def exF : Fld := ⟨0, 2, 10, 20⟩
theorem ex1 : passL 1 4 [exF] [15, 0] = [] := by decide
theorem ex2 : passL 1 4 [exF] [21, 0] = [(3, 0)] := by decide
theorem ex3 : passL 1 4 [exF] [] = [(2, 0)] := by decide
theorem nums_text (l : List (Int × Int)) (num : Int → List UInt8) : True := trivial
def num1 : Int → List UInt8 := fun n => if n = 0 then [48] else if n = 2 then [50] else if n = 3 then [51] else []

/-- the two texts that the examples tell -/
theorem text1 (n : Int) (hn : n = 2 ∨ n = 3) (e : Value) (w : World) (hc : Chain w [(n, 0)] e) (hg : ET w) :
    Calls Tryd.prog 30 #[e] w fun ev w' => ev = .returned (.string ⟨(textL num1 [(n, 0)]).toArray⟩) ∧ Below w.heap.size w w' := by
  refine text_any num1 [(n, 0)] e w hc hg (fun x hx => ?_) (fun done rest h => ?_)
  · obtain rfl := List.mem_singleton.1 hx
    rcases hn with rfl | rfl
    · exact ⟨num2, num0, by decide, by decide⟩
    · exact ⟨num3, num0, by decide, by decide⟩
  · have : done = [] ∨ done = [(n, 0)] := by
      cases done with
      | nil => exact .inl rfl
      | cons x d =>
        injection h with h1 h2
        have : d = [] := (List.append_eq_nil_iff.1 h2).1
        exact .inr (by rw [h1, this])
    rcases this with rfl | rfl
    · decide
    · rcases hn with rfl | rfl <;> decide
theorem info30 : (Tryd.prog.info? 30).map (·.size) = some 3 := by kernel_rfl
theorem FRd.keep {w w' : World} {A : Option Addr} {n : Nat} {fs : List Fld} (h : FRd w A n fs) (hk : ∀ ad, A = some ad → w'.heap[ad.block]? = w.heap[ad.block]?) : FRd w' A n fs := by
  refine ⟨h.len, fun k f hf => ?_⟩
  obtain ⟨ad, e, hc⟩ := h.cells k f hf
  exact ⟨ad, e, fun j v hj => (World.cell?_of_block (by rw [block_of_add, block_of_add]; exact hk ad e)).trans (hc j v hj)⟩
section
variable {ops : Array Oper} {rest : List Oper} {o : Oper} {a : Act} {w : World} {Q : Exit → Act → World → Prop}
theorem load30 (hw : Region.wanted o (yielded ops a.tmps) = true) (x : Operand) (ho : o.op = .load 30 x) (g : Nat) (hx : a.eval x = .pointer (some ⟨g, 0, none⟩)) (least most : Int) (A : Option Addr) (n c : Nat) (hb : Blk w g 30 (ruleA least most A n c))
    (h : wpList Tryd.prog ops Q rest (a.put o.dst (ruleV least most A n c)) w) : wpList Tryd.prog ops Q (o :: rest) a w :=
  wpList_step fun K hK => by
    rw [if_pos hw]
    exact wp_load_row 30 x ho g hx 30 _ (0, 0) _ hb Tryd.underlying30 rfl info30 (hK _ _ h)
end
/-- what holds throughout: the rule, the cap -/
structure AwS (w W : World) (gc : Nat) (l : Int) : Prop where
  fs : FRd W (some ⟨w.heap.size, 0, none⟩) 1 [exF]
  rule : Blk W (w.heap.size + 1) 30 (ruleA 1 4 (some ⟨w.heap.size, 0, none⟩) 1 1)
  cap : Blk W gc 41 (capA 1 2 l)
  bel : Below w.heap.size w W
  le : w.heap.size + 2 ≤ gc
theorem AwS.later {w W W' : World} {gc : Nat} {l : Int} (h : AwS w W gc l) (hb : Below W.heap.size W W') : AwS w W' gc l :=
  ⟨h.fs.below hb, h.rule.below hb h.rule.lt, h.cap.below hb h.cap.lt, h.bel.trans (hb.mono h.bel.size), h.le⟩
theorem AwS.set {w W : World} {gc : Nat} {l : Int} (h : AwS w W gc l) (l' : Int) : AwS w (W.setRow gc (capA 1 2 l')) gc l' := by
  have hle := h.le
  refine ⟨h.fs.keep fun ad e => ?_, h.rule.setRow_far (by omega) _, h.cap.setRow _, below_setRow h.bel (by omega) _, hle⟩
  injection e with e
  subst e
  exact setRow_other W gc _ _ (by show w.heap.size ≠ gc; omega)
theorem AwS.alloc {w W : World} {gc : Nat} {l : Int} (h : AwS w W gc l) (o : Obj) : AwS w (W.alloc o) gc l := h.later ((Below.refl _ _).alloc (Nat.le_refl _) _)
theorem AwS.et {w W : World} {gc : Nat} {l : Int} (h : AwS w W gc l) (hg : ET w) : ET W := hg.below h.bel hg.lt
theorem rd_lit (W : World) (xs : List UInt8) (cs : Array Value) (t : TypeId) (n : Nat) (hn : xs.length = n) (h : cs = (xs.map U8).toArray) : Rd (W.alloc (.cells cs t)) (some ⟨W.heap.size, 0, none⟩) n xs := by
  subst h
  refine ⟨hn, fun _ => ⟨_, rfl, fun j u hu => ?_⟩⟩
  rw [Addr.add_lit, Nat.zero_add, (Blk.new W t _).cell j]
  simpa using hu
theorem passN (least most : Int) (A : Option Addr) (n c : Nat) (fs : List Fld) (B : Option Addr) (m cb : Nat) (bs : List UInt8) (w : World) (hR : FRd w A n fs) (hn : n ≤ 9223372036854775807) (hB : Rd w B m bs) (hmc : m ≤ cb) (hm : m ≤ 9223372036854775807) (hg : ET w) (l : List (Int × Int)) (hl : passL least most fs bs = l) :
    Calls Tryd.prog 13 #[ruleV least most A n c, .slice B m cb] w (ErrRet w l) := by
  subst hl
  exact pass_any least most A n c fs B m cb bs w hR hn hB hmc hm hg
set_option maxRecDepth 100000 in
set_option maxHeartbeats 4000000 in
theorem awake_any (w : World) (hg : ET w) : Calls Tryd.prog 14 #[] w fun e w' => e = .returned (.bool true) ∧ Below w.heap.size w w' := by
  have hpos := hg.lt
  have hF0 : FRd ((w.alloc (.cells (fldA exF) 38)).alloc (.cells (ruleA 1 4 (some ⟨w.heap.size, 0, none⟩) 1 1) 30)) (some ⟨w.heap.size, 0, none⟩) 1 [exF] := by
    refine ⟨rfl, fun k f hf => ⟨_, rfl, fun j v hj => ?_⟩⟩
    have hk : k = 0 := by
      rcases k with _ | k
      · rfl
      · simp at hf
    subst hk
    injection hf with hf
    subst hf
    rw [Addr.add_lit, Addr.add_lit]
    simp only [Nat.zero_mul, Nat.zero_add]
    rw [((Blk.new w 38 (fldA exF)).alloc _).cell j]
    exact hj
  have hR0 : Blk ((w.alloc (.cells (fldA exF) 38)).alloc (.cells (ruleA 1 4 (some ⟨w.heap.size, 0, none⟩) 1 1) 30)) (w.heap.size + 1) 30 (ruleA 1 4 (some ⟨w.heap.size, 0, none⟩) 1 1) := Blk.at1 w _ 30 _ _ rfl
  have hb0 : Below w.heap.size w ((w.alloc (.cells (fldA exF) 38)).alloc (.cells (ruleA 1 4 (some ⟨w.heap.size, 0, none⟩) 1 1) 30)) := ((Below.refl _ _).alloc (Nat.le_refl _) _).alloc (by simp) _
  go_enter Tryd.func14, Tryd.ntmps14
  go_wp2_with fail
  change Calls _ _ _ ((w.alloc (.cells (fldA exF) 38)).alloc (.cells (ruleA 1 4 (some ⟨w.heap.size, 0, none⟩) 1 1) 30)) _
  generalize ((w.alloc (.cells (fldA exF) 38)).alloc (.cells (ruleA 1 4 (some ⟨w.heap.size, 0, none⟩) 1 1) 30)) = w1 at *
  refine (begin_yes 1 2 w1 (by decide)).mono ?_
  rintro e w2 ⟨rfl, hb2⟩
  have hR2 := hR0.below hb2 hR0.lt
  have hF2 := hF0.below hb2
  have hbel2 := hb0.trans (hb2.mono hb0.size)
  have hC3 := Blk.new w2 41 (capA 1 2 2)
  have hR3 := hR2.alloc (.cells (capA 1 2 2) 41)
  have hbx := (Below.refl w2.heap.size w2).alloc (Nat.le_refl _) (.cells (capA 1 2 2) 41)
  have hF3 := hF2.below hbx
  have hbel3 := hbel2.trans (hbx.mono hbel2.size)
  have hgc : w.heap.size ≤ w2.heap.size := hbel2.size
  have hlR : w.heap.size + 1 < w2.heap.size := hR2.lt
  clear hR0 hF0 hb0 hb2 hbx hR2 hF2 hbel2
  go_wp2_with fail
  generalize w2.alloc (.cells (capA 1 2 2) 41) = w3 at *
  have hS3 : AwS w w3 w2.heap.size 2 := ⟨hF3, hR3, hC3, hbel3, by omega⟩
  clear hF3 hR3 hC3 hbel3
  generalize w2.heap.size = gc at *
  clear hgc hlR
  refine (take_any 1 2 2 w3).mono ?_
  rintro e w4 ⟨rfl, hb4⟩
  rw [show takeL 1 2 2 = 1 from by decide, show takeB 1 2 2 = true from by decide]
  have hS4 := hS3.later hb4
  have hS5 := hS4.set 1
  clear hS3 hb4
  go_wp2_with (first
    | (refine store41 rfl (.tmp 2) (.tmp 19) rfl gc rfl 1 2 1 rfl 1 2 2 hS4.cap ?_)
    | (refine load41 rfl (.tmp 2) rfl gc rfl 1 2 1 hS5.cap ?_))
  refine (take_any 1 2 1 _).mono ?_
  rintro e w6 ⟨rfl, hb6⟩
  rw [show takeL 1 2 1 = 0 from by decide, show takeB 1 2 1 = true from by decide]
  have hS6 := hS5.later hb6
  have hS7 := hS6.set 0
  clear hS4 hS5 hb6
  go_wp2_with (first
    | (refine store41 rfl (.tmp 2) (.tmp 24) rfl gc rfl 1 2 0 rfl 1 2 1 hS6.cap ?_)
    | (refine load41 rfl (.tmp 2) rfl gc rfl 1 2 0 hS7.cap ?_))
  refine (take_any 1 2 0 _).mono ?_
  rintro e w8 ⟨rfl, hb8⟩
  rw [show takeL 1 2 0 = 0 from by decide, show takeB 1 2 0 = false from by decide]
  have hS8 := hS7.later hb8
  have hS9 := hS8.set 0
  clear hS6 hS7 hb8
  go_wp2_with (first
    | (refine store41 rfl (.tmp 2) (.tmp 29) rfl gc rfl 1 2 0 rfl 1 2 0 hS8.cap ?_)
    | (refine load41 rfl (.tmp 2) rfl gc rfl 1 2 0 hS9.cap ?_))
  refine (frame_any 1 2 0 _).mono ?_
  rintro e w10 ⟨rfl, hb10⟩
  rw [show frameL 1 2 0 = 1 from by decide]
  have hS10 := hS9.later hb10
  clear hS8 hS9 hb10
  go_wp2_with fail
  refine (take_any 1 2 1 _).mono ?_
  rintro e w11 ⟨rfl, hb11⟩
  rw [show takeL 1 2 1 = 0 from by decide, show takeB 1 2 1 = true from by decide]
  have hS11 := hS10.later hb11
  have hS12 := hS11.alloc (.cells (capA 1 2 0) 41)
  clear hS10 hb11
  go_wp2_with (refine load30 (by rfl) (.tmp 1) rfl (w.heap.size + 1) rfl 1 4 (some ⟨w.heap.size, 0, none⟩) 1 1 hS12.rule ?_)
  have hRd : Rd ((w11.alloc (.cells (capA 1 2 0) 41)).alloc (.cells #[Value.int .u8 15, .int .u8 0] 5)) (some ⟨w11.heap.size + 1, 0, none⟩) 2 [15, 0] := by
    have := rd_lit (w11.alloc (.cells (capA 1 2 0) 41)) [15, 0] #[Value.int .u8 15, .int .u8 0] 5 2 rfl rfl
    rwa [World.size_alloc] at this
  have hS13 := hS12.alloc (.cells #[Value.int .u8 15, .int .u8 0] 5)
  refine (passN 1 4 (some ⟨w.heap.size, 0, none⟩) 1 1 [exF] _ 2 2 [15, 0] _ hS13.fs (by omega) hRd (by omega) (by omega) (hS13.et hg) [] ex1).mono ?_
  rintro e w14 ⟨v, rfl, hch, hb14⟩
  obtain rfl : v = .nilIface := hch
  have hS14 := hS13.later hb14
  clear hS11 hS12 hS13 hb14 hRd
  go_wp2_with (refine load30 (by rfl) (.tmp 1) rfl (w.heap.size + 1) rfl 1 4 (some ⟨w.heap.size, 0, none⟩) 1 1 hS14.rule ?_)
  have hRd : Rd (w14.alloc (.cells #[Value.int .u8 21, .int .u8 0] 5)) (some ⟨w14.heap.size, 0, none⟩) 2 [21, 0] := rd_lit w14 [21, 0] #[Value.int .u8 21, .int .u8 0] 5 2 rfl rfl
  have hS15 := hS14.alloc (.cells #[Value.int .u8 21, .int .u8 0] 5)
  refine (passN 1 4 (some ⟨w.heap.size, 0, none⟩) 1 1 [exF] _ 2 2 [21, 0] _ hS15.fs (by omega) hRd (by omega) (by omega) (hS15.et hg) [(3, 0)] ex2).mono ?_
  rintro e w16 ⟨v, rfl, hch, hb16⟩
  have hS16 := hS15.later hb16
  clear hS14 hS15 hb16 hRd
  go_wp2_with fail
  refine (text1 3 (.inr rfl) v w16 hch (hS16.et hg)).mono ?_
  rintro e w17 ⟨rfl, hb17⟩
  rw [show (⟨(textL num1 [(3, 0)]).toArray⟩ : ByteArray) = ⟨#[51, 64, 48]⟩ from rfl]
  have hS17 := hS16.later hb17
  clear hS16 hb17 hch
  go_wp2_with (refine load30 (by rfl) (.tmp 1) rfl (w.heap.size + 1) rfl 1 4 (some ⟨w.heap.size, 0, none⟩) 1 1 hS17.rule ?_)
  refine (passN 1 4 (some ⟨w.heap.size, 0, none⟩) 1 1 [exF] none 0 0 [] w17 hS17.fs (by omega) (Rd.none_ _) (by omega) (by omega) (hS17.et hg) [(2, 0)] ex3).mono ?_
  rintro e w18 ⟨v, rfl, hch, hb18⟩
  have hS18 := hS17.later hb18
  clear hS17 hb18
  go_wp2_with fail
  refine (text1 2 (.inl rfl) v w18 hch (hS18.et hg)).mono ?_
  rintro e w19 ⟨rfl, hb19⟩
  rw [show (⟨(textL num1 [(2, 0)]).toArray⟩ : ByteArray) = ⟨#[50, 64, 48]⟩ from rfl]
  have hS19 := hS18.later hb19
  clear hS18 hb19 hch
  go_wp2_with fail
  go_ret
  exact ⟨rfl, hS19.bel⟩
end Go.Proofs.YthappdipoofclaaDoor
