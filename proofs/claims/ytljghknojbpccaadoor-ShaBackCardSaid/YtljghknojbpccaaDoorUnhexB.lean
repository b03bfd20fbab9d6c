/-
  THE WALK OF sha.Unhex.
-/
import Derived.Test.YtljghknojbpccaaDoorUnhexA
namespace Go.Proofs.YtljghknojbpccaaDoor
set_option linter.unusedSimpArgs false
set_option linter.unusedVariables false
open Go.RowKit

theorem results24_tmp {fn : Func} {p u : Tmp} (h : fn.results = #[.cell p 24, .tmp u]) (tmps : Array Value) (w : World) (g : Nat) (cs : Array Value) (v : Value)
    (hp : tmps.getD p undef = .pointer (some ⟨g, 0, none⟩)) (hb : Blk w g 24 cs) (hs : cs.size = 32) (hv : tmps.getD u undef = v) :
    (results fn tmps).run Tryd.prog w = .ok (.tuple #[.agg cs, v]) w := by
  rw [results_cell_tmp h, hp, hv]
  simp only [asAddr, Sem.run_pure, Result.andThen_ok]
  rw [run_loadVar_row w g 24 24 cs (0, 0) _ hb Tryd.underlying24 rfl (by rw [hs]; exact info24)]
  rfl
theorem zeros24 : #[Value.int .u8 0, .int .u8 0, .int .u8 0, .int .u8 0, .int .u8 0, .int .u8 0, .int .u8 0, .int .u8 0, .int .u8 0, .int .u8 0, .int .u8 0, .int .u8 0, .int .u8 0, .int .u8 0, .int .u8 0, .int .u8 0, .int .u8 0, .int .u8 0, .int .u8 0, .int .u8 0, .int .u8 0, .int .u8 0, .int .u8 0, .int .u8 0, .int .u8 0, .int .u8 0, .int .u8 0, .int .u8 0, .int .u8 0, .int .u8 0, .int .u8 0, .int .u8 0] = bytesV (List.replicate 32 0) := rfl
theorem bytesV_set (l : List UInt8) (i : Nat) (x : UInt8) : (bytesV l).setIfInBounds i (U8 x) = bytesV (l.set i x) := by
  simp [bytesV, List.map_set]
theorem bytesV_get (l : List UInt8) (i : Nat) (h : i < l.length) : (bytesV l)[i]? = some (U8 (l.getD i 0)) := by
  simp [bytesV, List.getD, h]
theorem half (k : Nat) : (k : Int).tdiv 2 = ((k / 2 : Nat) : Int) := rfl

/-- what Unhex answers -/
structure Un (l : List UInt8) (X : List UInt8) (k : Int) : Prop where
  ex : (l.length = 64 ∧ Sp.good l 64 ∧ X = Sp.uh l 64 ∧ k = 0) ∨ (¬ (l.length = 64 ∧ Sp.good l 64) ∧ X = List.replicate 32 0 ∧ k = 3)
theorem Un.yes {l : List UInt8} (h : l.length = 64) (hg : Sp.good l 64) : Un l (Sp.uh l 64) 0 := ⟨Or.inl ⟨h, hg, rfl, rfl⟩⟩
theorem Un.no {l : List UInt8} (h : ¬ (l.length = 64 ∧ Sp.good l 64)) : Un l (List.replicate 32 0) 3 := ⟨Or.inr ⟨h, rfl, rfl⟩⟩
theorem Un.same {l X Y : List UInt8} {k j : Int} (h : Un l X k) (h' : Un l Y j) : Y = X ∧ j = k := by
  rcases h.ex with ⟨a, b, e, ek⟩ | ⟨n, e, ek⟩ <;> rcases h'.ex with ⟨a', b', e', ek'⟩ | ⟨n', e', ek'⟩
  · exact ⟨e'.trans e.symm, ek'.trans ek.symm⟩
  · exact absurd ⟨a, b⟩ n'
  · exact absurd ⟨a', b'⟩ n
  · exact ⟨e'.trans e.symm, ek'.trans ek.symm⟩
theorem Un.len {l X : List UInt8} {k : Int} (h : Un l X k) : X.length = 32 := by
  rcases h.ex with ⟨a, b, e, ek⟩ | ⟨n, e, ek⟩
  · rw [e]; exact Sp.uh_length _ _
  · rw [e]; exact List.length_replicate
theorem Un.code {l X : List UInt8} {k : Int} (h : Un l X k) : k = 0 ∨ k = 3 := by
  rcases h.ex with ⟨a, b, e, ek⟩ | ⟨n, e, ek⟩
  · exact Or.inl ek
  · exact Or.inr ek

set_option maxRecDepth 100000 in
set_option maxHeartbeats 1000000 in
theorem unhex_short (s : ByteArray) (hs : s.size ≠ 64) (w : World) :
    Calls Tryd.prog 17 #[.string s] w fun e w' => e = .returned (.tuple #[.agg (bytesV (List.replicate 32 0)), .int .i64 3]) ∧ Below w.heap.size w w' := by
  have hne : decide ((s.size : Int) = 64) = false := by simp; omega
  have hb0 := (Below.refl w.heap.size w).alloc (Nat.le_refl _) (.cells (Array.replicate 32 (.int .u8 0)) 24)
  have hb1 := hb0.alloc hb0.size (.cells (Array.replicate 32 (.int .u8 0)) 24)
  have hr0 := (Blk.at0 w 24 (Array.replicate 32 (.int .u8 0)) (bytesV (List.replicate 32 0)) rfl).alloc (.cells (Array.replicate 32 (.int .u8 0)) 24)
  have hr1 := Blk.at1 w (.cells (Array.replicate 32 (.int .u8 0)) 24) 24 (Array.replicate 32 (.int .u8 0)) (bytesV (List.replicate 32 0)) rfl
  go_enter Tryd.func17, Tryd.ntmps17
  go_wp2_with (first
    | (refine load24 rfl _ rfl (w.heap.size + 1) rfl (bytesV (List.replicate 32 0)) hr1 (by rfl) ?_)
    | (refine store24 rfl _ _ rfl w.heap.size rfl (bytesV (List.replicate 32 0)) rfl _ hr0 (by rfl) (by rfl) (bytesV_one _) ?_))
  exact bodyPost_ret (results24_tmp rfl _ _ w.heap.size _ _ rfl (hr0.setRow _) rfl rfl) rfl ⟨rfl, below_setRow hb1 (Nat.le_refl _) _⟩

/-- what holds at the loop's head -/
structure UhInv (w : World) (s : ByteArray) (k : Nat) (wr : World) : Prop where
  res : Blk wr w.heap.size 24 (bytesV (List.replicate 32 0))
  sum : Blk wr (w.heap.size + 1) 24 (bytesV (Sp.uh s.data.toList k))
  it : wr.heap[w.heap.size + 2]? = some (.stringIter s k)
  bel : Below w.heap.size w wr
  good : Sp.good s.data.toList k

theorem iterPos_of {w : World} {b p : Nat} {s : ByteArray} (h : w.heap[b]? = some (.stringIter s p)) : w.iterPos b = p := by simp [World.iterPos, h]
theorem heap_new2 (w : World) (a b o : Obj) : (((w.alloc a).alloc b).alloc o).heap[w.heap.size + 2]? = some o := by
  have := heap_alloc_new ((w.alloc a).alloc b) o
  rwa [show ((w.alloc a).alloc b).heap.size = w.heap.size + 2 by simp] at this
theorem get_list (s : ByteArray) (k : Nat) (h : k < s.size) : s.data.toList.getD k 0 = s[k] := by
  have h' : k < s.data.size := h
  rw [List.getD_eq_getElem?_getD, Array.getElem?_toList, Array.getElem?_eq_getElem h']
  rfl
theorem UhInv.next {w wr : World} {s : ByteArray} {k : Nat} (h : UhInv w s k wr) (d : UInt8) (hd : Sp.dig (s.data.toList.getD k 0) = some d) (hk : k < 64) :
    UhInv w s (k + 1) ((wr.iterAt (w.heap.size + 2) s (k + 1)).setCell ⟨w.heap.size + 1, k / 2, none⟩ (U8 ((Sp.uh s.data.toList k).getD (k / 2) 0 <<< 4 ||| d))) := by
  have b1 : Blk (wr.iterAt (w.heap.size + 2) s (k + 1)) (w.heap.size + 1) 24 (bytesV (Sp.uh s.data.toList k)) := (Lib.iterAt_other wr _ _ s (k + 1) (by omega)).trans h.sum
  have b0 : Blk (wr.iterAt (w.heap.size + 2) s (k + 1)) w.heap.size 24 (bytesV (List.replicate 32 0)) := (Lib.iterAt_other wr _ _ s (k + 1) (by omega)).trans h.res
  refine ⟨b0.far (by simp) _, ?_, ?_, (Lib.below_iterAt h.bel (by omega) s (k + 1)).setCell (by simp) _, fun j hj => ?_⟩
  · have := b1.set_ (k / 2) (U8 ((Sp.uh s.data.toList k).getD (k / 2) 0 <<< 4 ||| d))
    rw [bytesV_set] at this
    rw [Sp.uh, hd]
    exact this
  · exact (Below.heap_setCell _ _ _ _ (by simp)).trans (Lib.iterAt_heap wr _ s k (k + 1) h.it)
  · rcases Nat.lt_succ_iff_lt_or_eq.1 hj with hj | rfl
    · exact h.good j hj
    · rw [hd]; rfl

set_option maxRecDepth 100000 in
set_option maxHeartbeats 2000000 in
theorem unhex_long (s : ByteArray) (hs : s.size = 64) (w : World) :
    Calls Tryd.prog 17 #[.string s] w fun e w' => ∃ X k, e = .returned (.tuple #[.agg (bytesV X), .int .i64 k]) ∧ Below w.heap.size w w' ∧ Un s.data.toList X k := by
  have hne : decide ((s.size : Int) = 64) = true := by simp; omega
  have hll : s.data.toList.length = 64 := hs
  have hb0 := (Below.refl w.heap.size w).alloc (Nat.le_refl _) (.cells (Array.replicate 32 (.int .u8 0)) 24)
  have hb1 := hb0.alloc hb0.size (.cells (Array.replicate 32 (.int .u8 0)) 24)
  have hr0 := (Blk.at0 w 24 (Array.replicate 32 (.int .u8 0)) (bytesV (List.replicate 32 0)) rfl).alloc (.cells (Array.replicate 32 (.int .u8 0)) 24)
  have hr1 := Blk.at1 w (.cells (Array.replicate 32 (.int .u8 0)) 24) 24 (Array.replicate 32 (.int .u8 0)) (bytesV (List.replicate 32 0)) rfl
  go_enter Tryd.func17, Tryd.ntmps17
  go_wp2_with fail
  go_loopw [5] (fun _ wr => ∃ k : Nat, k ≤ 64 ∧ UhInv w s k wr) (fun _ wr => 64 - wr.iterPos (w.heap.size + 2))
  case atStart =>
    refine ⟨0, by omega, hr0.alloc _, hr1.alloc _, ?_, hb1.alloc hb1.size _, fun j hj => by omega⟩
    exact heap_new2 w _ _ (.stringIter s 0)
  case round =>
    obtain ⟨k, hk, hI⟩ := hrel
    have hit := hI.it
    by_cases hlt : k < 64
    · have hlt' : k < s.size := by omega
      have hx := get_list s k hlt'
      by_cases hasc : (s[k]'hlt').toNat < 128
      · have hnx : ∀ ty, (Instr.next (.pointer (some ⟨w.heap.size + 2, 0, none⟩)) true ty).run Tryd.prog wr = _ := fun ty => Lib.run_next_ascii_at wr (w.heap.size + 2) s k ty hit hlt' hasc
        cases hd : Sp.dig (s[k]'hlt') with
        | some d =>
          have hval := fun W => value_ok (s[k]'hlt') d hd W
          have hnext := hI.next d (by rw [hx]; exact hd) hlt
          have b1 : Blk (wr.iterAt (w.heap.size + 2) s (k + 1)) (w.heap.size + 1) 24 (bytesV (Sp.uh s.data.toList k)) := (Lib.iterAt_other wr _ _ s (k + 1) (by omega)).trans hI.sum
          generalize (s[k]'hlt') = x at hnx hval hx hd
          have hul : (Sp.uh s.data.toList k).length = 32 := Sp.uh_length _ _
          have hm : k / 2 < 32 := by omega
          have c1 := (b1.cell (k / 2)).trans (bytesV_get _ _ (by rw [hul]; exact hm))
          have f1 := b1.frozen (k / 2)
          have hq := half k
          have hp1 := iterPos_of hit
          have hp2 := iterPos_of hnext.it
          go_wp2_with fail
          refine (hval _).mono ?_
          rintro e W' ⟨rfl, rfl⟩
          clear hval hnx hit hx hd
          replace hp1 := Lib.hid hp1
          replace hp2 := Lib.hid hp2
          generalize wr.iterAt (w.heap.size + 2) s (k + 1) = W at *
          generalize (Sp.uh s.data.toList k).getD (k / 2) 0 = y at *
          generalize k / 2 = m at *
          go_wp2
          go_roundw
          case rel => exact ⟨k + 1, by omega, hnext⟩
          case measure => rw [hp1.out, hp2.out]; omega
        | none =>
          obtain ⟨n1, n2⟩ := dig_none hd
          have hval := fun W => value_no (s[k]'hlt').toNat n1 n2 (by omega) W
          have hbad : ¬ (s.data.toList.length = 64 ∧ Sp.good s.data.toList 64) := fun hg => by
            have := hg.2 k hlt
            rw [hx, hd] at this
            cases this
          have b0 : Blk (wr.iterAt (w.heap.size + 2) s (k + 1)) w.heap.size 24 (bytesV (List.replicate 32 0)) := (Lib.iterAt_other wr _ _ s (k + 1) (by omega)).trans hI.res
          have hbel : Below w.heap.size w (wr.iterAt (w.heap.size + 2) s (k + 1)) := Lib.below_iterAt hI.bel (by omega) s (k + 1)
          generalize (s[k]'hlt').toNat = x at hnx hval
          clear n1 n2 hx hd hasc
          go_wp2_with fail
          refine (hval _).mono ?_
          rintro e W' ⟨rfl, rfl⟩
          clear hval hnx hit
          generalize wr.iterAt (w.heap.size + 2) s (k + 1) = W at *
          go_wp2_with (refine store24 rfl _ _ rfl w.heap.size rfl (bytesV (List.replicate 32 0)) rfl _ b0 (by rfl) (by rfl) (bytesV_one _) ?_)
          exact bodyPost_ret (results24_tmp rfl _ _ w.heap.size _ _ rfl (b0.setRow _) rfl rfl) rfl ⟨_, _, rfl, below_setRow hbel (Nat.le_refl _) _, Un.no hbad⟩
      · have hdh := decode_high s k hlt' (by omega)
        have hdl := decode_le s k
        have hnx : ∀ ty, (Instr.next (.pointer (some ⟨w.heap.size + 2, 0, none⟩)) true ty).run Tryd.prog wr = _ := fun ty => Lib.run_next_any_at wr (w.heap.size + 2) s k ty hit hlt'
        have hbad : ¬ (s.data.toList.length = 64 ∧ Sp.good s.data.toList 64) := fun hg => by
          have h1 := hg.2 k hlt
          rw [hx] at h1
          obtain ⟨d, hd⟩ := Option.isSome_iff_exists.1 h1
          rcases dig_some hd with h | h <;> omega
        generalize (Utf8.decode s k).1 = x at hnx hdh hdl
        generalize k + (Utf8.decode s k).2 = k2 at hnx
        have hval := fun W => value_no x (by omega) (by omega) hdl W
        have b0 : Blk (wr.iterAt (w.heap.size + 2) s k2) w.heap.size 24 (bytesV (List.replicate 32 0)) := (Lib.iterAt_other wr _ _ s k2 (by omega)).trans hI.res
        have hbel : Below w.heap.size w (wr.iterAt (w.heap.size + 2) s k2) := Lib.below_iterAt hI.bel (by omega) s k2
        clear hx hasc hdh hdl
        go_wp2_with fail
        refine (hval _).mono ?_
        rintro e W' ⟨rfl, rfl⟩
        clear hval hnx hit
        generalize wr.iterAt (w.heap.size + 2) s k2 = W at *
        go_wp2_with (refine store24 rfl _ _ rfl w.heap.size rfl (bytesV (List.replicate 32 0)) rfl _ b0 (by rfl) (by rfl) (bytesV_one _) ?_)
        exact bodyPost_ret (results24_tmp rfl _ _ w.heap.size _ _ rfl (b0.setRow _) rfl rfl) rfl ⟨_, _, rfl, below_setRow hbel (Nat.le_refl _) _, Un.no hbad⟩
    · obtain rfl : k = 64 := by omega
      have hnx : ∀ ty, (Instr.next (.pointer (some ⟨w.heap.size + 2, 0, none⟩)) true ty).run Tryd.prog wr = _ := fun ty => Lib.run_next_end_at wr (w.heap.size + 2) s 64 ty hit (by omega)
      have b0 := hI.res
      have b1 := hI.sum
      have hbel := hI.bel
      have hgood := hI.good
      have hul : (bytesV (Sp.uh s.data.toList 64)).size = 32 := by rw [bytesV_size]; exact Sp.uh_length _ _
      clear hI hit
      have hun : Un s.data.toList (Sp.uh s.data.toList 64) 0 := Un.yes hll hgood
      generalize Sp.uh s.data.toList 64 = X at *
      go_wp2_with (first
        | (refine load24 rfl _ rfl (w.heap.size + 1) rfl (bytesV X) b1 hul ?_)
        | (refine store24 rfl _ _ rfl w.heap.size rfl (bytesV X) rfl _ b0 (by rfl) hul (bytesV_one _) ?_))
      exact bodyPost_ret (results24_tmp rfl _ _ w.heap.size _ _ rfl (b0.setRow _) hul rfl) rfl ⟨_, _, rfl, below_setRow hbel (Nat.le_refl _) _, hun⟩
theorem unhex_any (s : ByteArray) (w : World) :
    Calls Tryd.prog 17 #[.string s] w fun e w' => ∃ X k, e = .returned (.tuple #[.agg (bytesV X), .int .i64 k]) ∧ Below w.heap.size w w' ∧ Un s.data.toList X k := by
  by_cases hs : s.size = 64
  · exact unhex_long s hs w
  · exact (unhex_short s hs w).mono fun e w' ⟨he, hb⟩ => ⟨_, _, he, hb, Un.no fun h => hs h.1⟩
end Go.Proofs.YtljghknojbpccaaDoor
