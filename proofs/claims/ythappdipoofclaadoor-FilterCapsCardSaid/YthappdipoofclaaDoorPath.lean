/-
  THE WALK OF fault.Path: the places of the chain.
-/
import Derived.Test.YthappdipoofclaaDoorText
namespace Go.Proofs.YthappdipoofclaaDoor
set_option linter.unusedSimpArgs false
set_option linter.unusedVariables false
open Go.RowKit

theorem infoInt : (Tryd.prog.info? 3).map (fun i => (i.zero, i.size, i.bytes)) = some (some (.int .i64 0), 1, 8) := by kernel_rfl
def atsV (l : List (Int × Int)) : List Value := l.map fun x => .int .i64 x.2
theorem reads_one_int (W : World) (x : Int) (t : TypeId) : Reads (W.alloc (.cells #[.int .i64 x] t)) (W.heap.size + 1) 1 (some ⟨W.heap.size, 0, none⟩) 1 [.int .i64 x] :=
  ⟨rfl, fun _ => ⟨_, rfl, by simp, fun j u hu => by
    rw [Addr.add_lit, Nat.zero_add, (Blk.new W t #[.int .i64 x]).cell j]
    simpa using hu⟩⟩
theorem own_slice {w : World} {base n size : Nat} {e : TypeId} {v : Value} {xs : List Value} (h : w.ownsRow base e size v n xs) : ∃ A c, v = .slice A n c := by
  rcases h.2 with ⟨rfl, h2⟩ | ⟨g', cap, cur, rfl, _, _, hle, _⟩
  · subst h2
    exact ⟨none, 0, rfl⟩
  · exact ⟨_, cap, rfl⟩
theorem own_below {w w' : World} {base n size : Nat} {e : TypeId} {v : Value} {xs : List Value} (h : w.ownsRow base e size v n xs) (hb : Below w.heap.size w w') : w'.ownsRow base e size v n xs :=
  h.kept (only_of_below hb none) (by cases hv : v.ownBlock <;> simp)

/-- what Path answers: its own row of places -/
def PathRet (w : World) (l : List (Int × Int)) (e : Ending) (w' : World) : Prop :=
  ∃ A c, e = .returned (.slice A l.length c) ∧ w'.ownsRow w.heap.size 3 1 (.slice A l.length c) l.length (atsV l) ∧ Below w.heap.size w w'

/-- what holds at each round's head of Path -/
structure PathInv (w wr : World) (l done rest : List (Int × Int)) (e : Value) (A : Option Addr) (n c : Nat) : Prop where
  all : done ++ rest = l
  len : n = done.length
  chain : Chain w rest e
  own : wr.ownsRow w.heap.size 3 1 (.slice A n c) n (atsV done)
  bel : Below w.heap.size w wr

set_option maxRecDepth 100000 in
set_option maxHeartbeats 4000000 in
theorem path_any (l : List (Int × Int)) (e : Value) (w : World) (hc : Chain w l e) (hg : ET w) (hlen : l.length ≤ 1000) :
    Calls Tryd.prog 25 #[e] w (PathRet w l) := by
  obtain ⟨i0, hi0, hz0, hz1, hz2⟩ := info_parts infoInt
  have hpos := hg.lt
  have HL := Lib.hid hlen
  clear hlen
  go_enter Tryd.func25, Tryd.ntmps25
  go_wp2_with fail
  refine (outermost_any l e w hc hg).mono ?_
  rintro ev w1 ⟨rfl, hb1⟩
  go_wp2_with fail
  go_loopg [3, 4] l.length (fun k v p wr => ∃ done rest e A n c, k = rest.length ∧ p = fptr e ∧ v = .slice A n c ∧ PathInv w wr l done rest e A n c)
  case atStart => exact ⟨[], l, e, none, 0, 0, rfl, rfl, rfl, rfl, rfl, hc, ⟨rfl, .inl ⟨rfl, rfl⟩⟩, hb1⟩
  case round =>
    obtain ⟨done, rest, e, A, n, c, rfl, rfl, rfl, hI⟩ := hrel
    have hwr := hI.bel.size
    cases rest with
    | nil =>
      obtain rfl : e = .nilIface := hI.chain
      have hall := hI.all
      rw [List.append_nil] at hall
      subst hall
      have hn := hI.len
      subst hn
      have hown := hI.own
      have hbel := hI.bel
      clear hI
      rw [fptr_nil]
      go_wp2_with fail
      go_ret
      exact ⟨A, c, rfl, hown, hbel⟩
    | cons x r =>
      obtain ⟨b, cause, rfl, hblk, hch⟩ := hI.chain
      obtain ⟨cd, a⟩ := x
      have hn1000 : n + 1 ≤ 1000 := by
        have h1 := HL.out
        have h2 := hI.len
        have h3 := congrArg List.length hI.all
        simp at h3
        omega
      have hI2 : ∀ w' A' n' c', n' = n + 1 → w'.ownsRow w.heap.size 3 1 (.slice A' n' c') n' (atsV done ++ [.int .i64 a]) → Below w.heap.size w w' → PathInv w w' l (done ++ [(cd, a)]) r cause A' n' c' := fun w' A' n' c' e0 h1 h2 =>
        ⟨by rw [← hI.all]; simp, by rw [e0, hI.len]; simp, hch, by simpa [atsV] using h1, h2⟩
      have HI2 := Lib.hid hI2
      have hown := hI.own
      have hbel := hI.bel
      clear hI hI2
      rw [fptr_iface]
      have hk1 : wr.cell? ⟨b, 1, none⟩ = some (.int .i64 a) := (hblk.below hbel hblk.lt).cell 1
      have hk2 : ∀ W, Below w.heap.size w W → W.cell? ⟨b, 2, none⟩ = some cause := fun W hW => (hblk.below hW hblk.lt).cell 2
      have HK2 := Lib.hid hk2
      clear hk2
      go_wp2_with (at_builtin; refine wpList_append_any _ rfl (.tmp 14) (.tmp 19) 57 rfl w.heap.size 3 i0 _ 1 8 Tryd.underlying57 hi0 hz0 hz1 hz2 rfl (by omega) (.slice A n c) n _ rfl (hown.alloc _) _ _ 1 1 [.int .i64 a] rfl (reads_one_int wr a 3) (by intro u hu; simp at hu; subst hu; rfl) (by simp only [maxLen]; omega) (by omega) (by simp; omega) ?_; intro v2 w2 hown2 hg2 hat2; obtain ⟨A2, c2, rfl⟩ := own_slice hown2; have hbel2 : Below w.heap.size w w2 := (hbel.alloc hwr _).grown hg2 (by simp; omega) (fun k hk => (hown.lt k hk).1); have hk3 := HK2.out w2 hbel2; clear hk1 hg2 hat2)
      have hI3 := HI2.out w2 A2 (n + 1) c2 rfl hown2 hbel2
      refine (outermost_any r cause w2 (hch.below hbel2) (hg.below hbel2 hpos)).mono ?_
      rintro ev w5 ⟨rfl, hb5⟩
      clear hk3
      have hI5 := HI2.out w5 A2 (n + 1) c2 rfl (own_below hown2 hb5) (hbel2.trans (hb5.mono hbel2.size))
      clear hown hown2 hI3
      go_wp2_with fail
      go_roundg r.length
      case measure => simp
      case rel => exact ⟨_, r, cause, A2, n + 1, c2, rfl, rfl, rfl, hI5⟩
end Go.Proofs.YthappdipoofclaaDoor
