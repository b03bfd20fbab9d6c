/-
  THE WALK OF Write.
-/
import Derived.Test.YtljghknojbpccaaDoorHashB
namespace Go.Proofs.YtljghknojbpccaaDoor
set_option linter.unusedSimpArgs false
set_option linter.unusedVariables false
open Go.RowKit
set_option maxRecDepth 100000 in
set_option maxHeartbeats 1000000 in
theorem write_any (g : Nat) (A : Option Addr) (n c : Nat) (bs m : List UInt8) (w : World) (hn : bs.length = n) (hnc : n ≤ c) (hS : Src w g A n (bs.map U8)) (hH : Holds w g m)
    (hlen : m.length + bs.length ≤ 1000000000) (ht : Tables w) (hg : 2 ≤ g) :
    Calls Tryd.prog 13 #[.pointer (some ⟨g, 0, none⟩), .slice A n c] w fun e w' => e = .returned (.tuple #[]) ∧ Holds w' g (m ++ bs) ∧ w.grownBy w' (some g) := by
  go_enter Tryd.func13, Tryd.ntmps13
  go_wp2_with fail
  go_loopw [1] (fun v wr => ∃ A n c was todo, v = .slice A n c ∧ WInv w wr g (m ++ bs) A n c was todo) (fun v _ => sliceN v)
  case atStart => exact ⟨A, n, c, m, bs, rfl, rfl, hn, hS, hH, World.grownBy.refl w _, hnc⟩
  case round =>
    obtain ⟨A, n, c, was, todo, rfl, hinv⟩ := hrel
    have htr := ht.grown hinv.frame hg
    by_cases hn0 : 0 < n
    · obtain ⟨ad, rfl, hne, hcell⟩ := hinv.src.2 hn0
      obtain ⟨rst, hr, hb⟩ := hinv.holds.ex
      have hL : was.length + todo.length ≤ 1000000000 := by
        have := congrArg List.length hinv.all
        simp at this
        omega
      have hcl := hinv.holds.cellLen
      have hfl := hb.frozen 72
      generalize hu : was.length % 64 = u
      have hu64 : u < 64 := by omega
      have eu : ((was.length : Int) % 64) = (u : Int) := by omega
      have Hu := Lib.hid hu
      clear hu
      have hsl := fun W => slice47at g 8 u hu64 W
      obtain ⟨k, hk⟩ : ∃ k, k = min n (64 - u) := ⟨_, rfl⟩
      have hk1 : k ≤ n := by omega
      have hk2 : u + k ≤ 64 := by omega
      have hk3 : k = Nat.min n (64 - u) := hk
      have hk4 : 0 < k := by omega
      have Hk := Lib.hid hk
      have hkt : k ≤ todo.length := by have := hinv.len; omega
      obtain ⟨cs, hcs⟩ : ∃ cs, cs = (todo.take k).map U8 := ⟨_, rfl⟩
      have ecs : cs.length = k := by rw [hcs]; simp; omega
      have hmin : cs.length = Nat.min n (64 - u) := by rw [ecs]; exact hk
      have hsrc : ∀ j v, cs[j]? = some v → wr.cell? (ad.add j) = some v := fun j v hj => hcell j v (by
        rw [hcs] at hj
        have : j < k := by
          rcases Nat.lt_or_ge j k with h | h
          · exact h
          · rw [List.getElem?_eq_none (by simp; omega)] at hj; cases hj
        rw [List.map_take, List.getElem?_take, if_pos this] at hj
        exact hj)
      have hone : ∀ v ∈ cs, v.oneCell' = true := by
        rw [hcs]
        intro v hv
        obtain ⟨x, _, rfl⟩ := List.mem_map.1 hv
        rfl
      have hfit : 8 + u + cs.length ≤ (hashV (Sp.after was (was.length / 64)) rst was.length).size := by rw [hashV_size, hr.len, ecs]; omega
      obtain ⟨wc, hwc⟩ : ∃ wc, wc = wr.setRow g ((hashV (Sp.after was (was.length / 64)) rst was.length).toList.take (8 + u) ++ cs ++ (hashV (Sp.after was (was.length / 64)) rst was.length).toList.drop (8 + u + cs.length)).toArray := ⟨_, rfl⟩
      have hb2 : Blk wc g 49 (hashV (Sp.after was (was.length / 64)) (Sp.fill rst todo u k) was.length) := by
        rw [hwc, hcs, ← hashV_copy _ _ _ _ _ _ hr.len hk2 hkt]
        exact hb.setRow _
      have hfr2 : wr.grownBy wc (some g) := by
        rw [hwc]
        exact only_setRow (World.grownBy.refl wr _) (.inl rfl) _
      have hf64 := Sp.fill_length rst todo u k hr.len hk2 hkt
      have hcl2 : wc.cell? ⟨g, 72, none⟩ = some (.int .i64 (was.length : Int)) := (hb2.cell 72).trans (hashV_len _ _ _ hf64)
      have hfl2 := hb2.frozen 72
      have Hwc := Lib.hid hwc
      have Hmin := Lib.hid hmin
      have Hsrc := Lib.hid hsrc
      have Hone := Lib.hid hone
      have Hcs := Lib.hid hcs
      have Hecs := Lib.hid ecs
      clear hwc hmin hsrc hone hcs hk hk3 ecs
      go_wp2_with (refine wpList_copyB rfl (.tmp 18) (.tmp 19) 22 rfl 5 Tryd.underlying22 info5 g (8 + u) (64 - u) (64 - u) rfl ad n c rfl 49 _ hb cs Hmin.out Hsrc.out hfit Hone.out ?_; rw [← Hwc.out, Hecs.out])
      rotate_left 2
      · have hn64 : u + k < 64 := by
          have h := ‹(((u : Int) + (k : Int)) == 64) = false›
          simp at h
          omega
        have hm := hr.more hkt (by rw [Hu.out]; exact hn64)
        have hH' : Holds (wc.setCell ⟨g, 72, none⟩ (.int .i64 ((was.length : Int) + (k : Int)))) g (was ++ todo.take k) := by
          refine ⟨⟨_, hm.1, ?_⟩⟩
          rw [hm.2, Hu.out, ← hashV_setLen _ _ _ ((was.length : Int) + (k : Int)) hf64 _ (by simp; omega)]
          exact hb2.set_ 72 _
        exact ⟨⟨_, _, _, _, _, rfl, hinv.next hne hn0 hk1 hH' (only_setCell hfr2 (.inl rfl) _) (by by_cases h : c = k <;> simp [h])⟩, by simp [sliceN]; omega⟩
      all_goals
        have h64 : u + k = 64 := by
          have h := ‹(((u : Int) + (k : Int)) == 64) = true›
          simp at h
          omega
        have hm := hr.whole hkt (by rw [Hu.out]; exact h64)
        have hb3 : Blk (wc.setCell ⟨g, 72, none⟩ (.int .i64 ((was.length : Int) + (k : Int)))) g 49 (hashV (Sp.after was (was.length / 64)) (Sp.fill rst todo u k) (was.length + k)) := by
          rw [← hashV_setLen _ _ was.length ((was.length : Int) + (k : Int)) hf64 _ (by simp)]
          exact hb2.set_ 72 _
        have hfr3 := only_setCell (p := ⟨g, 72, none⟩) hfr2 (.inl rfl) (.int .i64 ((was.length : Int) + (k : Int)))
        generalize wc.setCell ⟨g, 72, none⟩ (.int .i64 ((was.length : Int) + (k : Int))) = wx at hb3 hfr3
        have htx := htr.grown hfr3 hg
        refine region6 _ rfl g rfl wx _ _ _ hb3 hf64 htx _ (fun _ _ _ _ _ h => h) (fun w' hb4 hfr4 => ?_)
        have hH' : Holds w' g (was ++ todo.take k) := by
          refine ⟨⟨_, hm.1, ?_⟩⟩
          rw [hm.2, Hu.out, show (was ++ todo.take k).length = was.length + k by simp; omega]
          exact hb4
        have hnext := fun A' c' hA => hinv.next (A' := A') (c' := c') hne hn0 hk1 hH' (only_trans hfr3 hfr4) hA
        clear hm hH' hb4
        simp only [act13, act7, Act.put, List.setIfInBounds_toArray, List.set_cons_succ, List.set_cons_zero]
        go_roundw
        case rel =>
          repeat apply Exists.intro
          first
            | exact ⟨⟨_, _, _, _, _, rfl, hnext _ _ (.inl ⟨‹c = k›, rfl, rfl⟩)⟩, rfl⟩
            | exact ⟨⟨_, _, _, _, _, rfl, hnext _ _ (.inr ⟨rfl, rfl⟩)⟩, rfl⟩
        case measure => show n - k < n; omega
    · obtain rfl : n = 0 := by omega
      go_wp2_with fail
      go_end0
      have h0 : todo = [] := List.eq_nil_of_length_eq_zero hinv.len
      have hall := hinv.all
      rw [h0, List.append_nil] at hall
      exact ⟨rfl, hall ▸ hinv.holds, hinv.frame⟩
end Go.Proofs.YtljghknojbpccaaDoor
