/-
  THE WALK OF CodeDecodes.
-/
import Derived.Test.YtdkhbnkhpebkkaaDoorAwake
import Derived.Test.YtdkhbnkhpebkkaaDoorSame
import Derived.Test.YtdkhbnkhpebkkaaDoorList
namespace Go.Proofs.YtdkhbnkhpebkkaaDoor
set_option linter.unusedSimpArgs false
set_option linter.unusedVariables false
open Go.RowKit
set_option maxRecDepth 100000 in
set_option maxHeartbeats 4000000 in
open Classical in
theorem codeDecodes_few (A : Option Addr) (n c : Nat) (bs : List UInt8) (w : World) (hR : Rd w A n bs) (hnc : n ≤ c) (hn : n ≤ 9223372036854775807) (hg : ET w) (h : n ≤ 560) :
    Calls Tryd.prog 5 #[.slice A n c] w fun e w' => e = .returned (.bool true) ∧ Below w.heap.size w w' := by
  have hpos := hg.lt
  have hR1 := hR
  have hbl := hR.len
  clear hR
  go_enter Tryd.func5, Tryd.ntmps5
  go_wp2_with fail
  refine (decode_any A n c bs w hR1 (by omega) (by omega) hg).mono ?_
  rintro e w1 ⟨A1, n1, v1, rfl, hch1, hI1, hz1, hb1⟩
  have hR2 := hR1.grown hb1
  have hbel1 := hb1
  clear hb1
  by_cases h4 : n % 4 = 0
  · have hdec : ∀ (c k : Int), chk (listI bs) = some (c, k) → decL bs = [(c, 4 * k), (c, k)] := fun c k h => decL_bad (by rw [hbl]; first | done | exact h4) h
    have hok : chk (listI bs) = none → decL bs = [] := fun h => decL_ok (by rw [hbl]; first | done | exact h4) h
    have hrem : (((n : Nat) : Int).tmod 4 != 0) = false := by first | decide | (rw [bne_eq_false_iff_eq, Int.tmod_eq_emod_of_nonneg (by omega)]; omega)
    have hat : ∀ x, chk (listI bs) = some x → 0 ≤ x.2 ∧ x.2 ≤ 140 := fun x hx => by
      have h1 := chk_at hx
      have h2 := listI_len bs
      rw [hbl] at h2
      have h3 : ((listI bs).length : Int) ≤ 140 := by omega
      omega
    have hcode := fun x => @chk_code (listI bs) x
    have HD := Lib.hid hdec
    have HO := Lib.hid hok
    have HA := Lib.hid hat
    have HC := Lib.hid hcode
    have HI := Lib.hid hI1
    have HZ := Lib.hid hz1
    have HCH := Lib.hid hch1
    clear hdec hok hat hcode hI1 hz1 hch1
    go_wp2_with fail
    refine (list_any A n c bs w1 hR2 (by omega) (by omega)).mono ?_
    rintro e w2 ⟨A2, c2, rfl, hI2, hb2⟩
    have hbel2 := hbel1.trans (hb2.mono hbel1.size)
    go_wp2_with fail
    refine (refcheck_any A2 (n / 4) c2 (listI bs) w2 hI2 (by omega)).mono ?_
    rintro e w3 ⟨rfl, hb3⟩
    have hI3 := hI2.below hb3
    have hbel3 := hbel2.trans (hb3.mono hbel2.size)
    have hB13 := hb2.trans (hb3.mono hb2.size)
    clear hI2 hb2 hb3 hbel2
    obtain ⟨o, ho⟩ : ∃ o, chk (listI bs) = o := ⟨_, rfl⟩
    rw [ho]
    have HOO := Lib.hid ho
    clear ho
    cases o with
    | none =>
      have hnil := HO.out HOO.out
      have hch := HCH.out
      rw [hnil] at hch
      obtain rfl : v1 = .nilIface := hch
      have hI1 := (HI.out hnil).below hB13
      clear hnil
      rw [numsOf_none]
      go_wp2_with fail
      have hn1 := hI1.len
      rw [listI_len, hbl] at hn1
      refine (same_any A1 n1 n1 (listI bs) A2 (n / 4) c2 (listI bs) w3 hI1 hI3 (by omega) (by omega)).mono ?_
      rintro e w4 ⟨rfl, hb4⟩
      rw [decide_eq_true (rfl : listI bs = listI bs)]
      have hbel4 := hbel3.trans (hb4.mono hbel3.size)
      clear hb4 hI1 hI3 hbel3 hn1
      go_wp2_with fail
      refine (awake_any w4 (hg.below hbel4 hpos)).mono ?_
      rintro e w5 ⟨rfl, hb5⟩
      go_wp2_with fail
      go_ret
      exact ⟨rfl, hbel4.trans (hb5.mono hbel4.size)⟩
    | some x =>
      obtain ⟨ec, ea⟩ := x
      have h0 : (ec == 0) = false := HC.out _ HOO.out
      have hbad := HD.out ec ea HOO.out
      have hea := HA.out _ HOO.out
      have hn1 := HZ.out (by rw [hbad]; intro x; cases x)
      subst hn1
      have hch := HCH.out
      rw [hbad] at hch
      have hch3 := hch.below hB13
      simp only at hea
      have hsm : IntKind.i64.wrap (4 * ea) = 4 * ea := IntWalk.i64_in _ (by omega)
      have Hsm := Lib.hid hsm
      rw [numsOf_some]
      clear hch hB13 hI3 hbad hea hsm
      go_wp2_with fail
      refine (path_any [(ec, 4 * ea), (ec, ea)] v1 w3 hch3 (hg.below hbel3 hpos) (by simp)).mono ?_
      rintro ev w4 ⟨A4, c4, rfl, hown, hb4⟩
      have hch4 := hch3.below hb4
      have hbel4 := hbel3.trans (hb4.mono hbel3.size)
      clear hch3 hb4 hbel3
      go_wp2_with fail
      refine (code_any ec (4 * ea) [(ec, ea)] v1 w4 hch4 (hg.below hbel4 hpos)).mono ?_
      rintro e w5 ⟨rfl, hb5⟩
      have hbel5 := hbel4.trans (hb5.mono hbel4.size)
      have hown5 := own_below hown hb5
      obtain ⟨g5, cap5, hv, _, _⟩ := hown5.form (by simp)
      injection hv with e1 e2 e3
      subst e1
      have hc0 : w5.cell? ⟨g5, 0, none⟩ = some (.int .i64 (4 * ea)) := by
        have := hown5.cells (g := g5) rfl 0 (.int .i64 (4 * ea)) rfl
        rw [Addr.add_lit, Nat.zero_add] at this
        exact this
      have hc1 : w5.cell? ⟨g5, 1, none⟩ = some (.int .i64 ea) := by
        have := hown5.cells (g := g5) rfl 1 (.int .i64 ea) rfl
        rw [Addr.add_lit, Nat.zero_add] at this
        exact this
      have hsm := Hsm.out
      clear hown hown5 e2 e3 hb5 hbel4 hch4
      go_wp2_with fail
      refine (awake_any w5 (hg.below hbel5 hpos)).mono ?_
      rintro e w6 ⟨rfl, hb6⟩
      go_wp2_with fail
      go_ret
      exact ⟨rfl, hbel5.trans (hb6.mono hbel5.size)⟩
  · have hodd := decL_odd (bs := bs) (by rw [hbl]; exact h4)
    rw [hbl] at hodd
    have hn1 := hz1 (by rw [hodd]; intro x; cases x)
    subst hn1
    rw [hodd] at hch1
    have hrem : (((n : Nat) : Int).tmod 4 != 0) = true := by rw [bne_iff_ne, Int.tmod_eq_emod_of_nonneg (by omega)]; omega
    clear hI1 hz1 hodd hR2
    go_wp2_with fail
    refine (code_any 2 ((n / 4 : Nat) : Int) [] v1 w1 hch1 (hg.below hbel1 hpos)).mono ?_
    rintro e w2 ⟨rfl, hb2⟩
    have hch2 := hch1.below hb2
    have hbel2 := hbel1.trans (hb2.mono hbel1.size)
    clear hch1 hb2 hbel1
    go_wp2_with fail
    refine (path_any [(2, ((n / 4 : Nat) : Int))] v1 w2 hch2 (hg.below hbel2 hpos) (by simp)).mono ?_
    rintro ev w3 ⟨A3, c3, rfl, hown3, hb3⟩
    have hch3 := hch2.below hb3
    have hbel3 := hbel2.trans (hb3.mono hbel2.size)
    clear hch2 hb3 hbel2 hown3
    go_wp2_with fail
    refine (path_any [(2, ((n / 4 : Nat) : Int))] v1 w3 hch3 (hg.below hbel3 hpos) (by simp)).mono ?_
    rintro ev w4 ⟨A4, c4, rfl, hown4, hb4⟩
    have hbel4 := hbel3.trans (hb4.mono hbel3.size)
    obtain ⟨g4, cap4, hv, _, _⟩ := hown4.form (by simp)
    injection hv with e1 e2 e3
    subst e1
    have hc0 : w4.cell? ⟨g4, 0, none⟩ = some (.int .i64 ((n / 4 : Nat) : Int)) := by
      have := hown4.cells (g := g4) rfl 0 (.int .i64 ((n / 4 : Nat) : Int)) rfl
      rw [Addr.add_lit, Nat.zero_add] at this
      exact this
    clear hown4 e2 e3 hb4 hbel3 hch3
    go_wp2_with fail
    refine (awake_any w4 (hg.below hbel4 hpos)).mono ?_
    rintro e w5 ⟨rfl, hb5⟩
    go_wp2_with fail
    go_ret
    exact ⟨rfl, hbel4.trans (hb5.mono hbel4.size)⟩
set_option maxRecDepth 100000 in
set_option maxHeartbeats 4000000 in
open Classical in
theorem codeDecodes_many (A : Option Addr) (n c : Nat) (bs : List UInt8) (w : World) (hR : Rd w A n bs) (hnc : n ≤ c) (hn : n ≤ 9223372036854775807) (hg : ET w) (h : 560 < n) :
    Calls Tryd.prog 5 #[.slice A n c] w fun e w' => e = .returned (.bool true) ∧ Below w.heap.size w w' := by
  have hpos := hg.lt
  have hR1 := hR.take 560
  rw [show min n 560 = 560 by omega] at hR1
  have hbl := hR1.len
  have hc560 : 560 ≤ c := by omega
  clear hR
  go_enter Tryd.func5, Tryd.ntmps5
  go_wp2_with fail
  refine (decode_any A 560 c (bs.take 560) w hR1 (by omega) (by omega) hg).mono ?_
  rintro e w1 ⟨A1, n1, v1, rfl, hch1, hI1, hz1, hb1⟩
  have hR2 := hR1.grown hb1
  have hbel1 := hb1
  clear hb1
  by_cases h4 : 560 % 4 = 0
  · have hdec : ∀ (c k : Int), chk (listI (bs.take 560)) = some (c, k) → decL (bs.take 560) = [(c, 4 * k), (c, k)] := fun c k h => decL_bad (by rw [hbl]; first | done | exact h4) h
    have hok : chk (listI (bs.take 560)) = none → decL (bs.take 560) = [] := fun h => decL_ok (by rw [hbl]; first | done | exact h4) h
    have hrem : (((560 : Nat) : Int).tmod 4 != 0) = false := by first | decide | (rw [bne_eq_false_iff_eq, Int.tmod_eq_emod_of_nonneg (by omega)]; omega)
    have hat : ∀ x, chk (listI (bs.take 560)) = some x → 0 ≤ x.2 ∧ x.2 ≤ 140 := fun x hx => by
      have h1 := chk_at hx
      have h2 := listI_len (bs.take 560)
      rw [hbl] at h2
      have h3 : ((listI (bs.take 560)).length : Int) ≤ 140 := by omega
      omega
    have hcode := fun x => @chk_code (listI (bs.take 560)) x
    have HD := Lib.hid hdec
    have HO := Lib.hid hok
    have HA := Lib.hid hat
    have HC := Lib.hid hcode
    have HI := Lib.hid hI1
    have HZ := Lib.hid hz1
    have HCH := Lib.hid hch1
    clear hdec hok hat hcode hI1 hz1 hch1
    go_wp2_with fail
    refine (list_any A 560 c (bs.take 560) w1 hR2 (by omega) (by omega)).mono ?_
    rintro e w2 ⟨A2, c2, rfl, hI2, hb2⟩
    have hbel2 := hbel1.trans (hb2.mono hbel1.size)
    go_wp2_with fail
    refine (refcheck_any A2 (560 / 4) c2 (listI (bs.take 560)) w2 hI2 (by omega)).mono ?_
    rintro e w3 ⟨rfl, hb3⟩
    have hI3 := hI2.below hb3
    have hbel3 := hbel2.trans (hb3.mono hbel2.size)
    have hB13 := hb2.trans (hb3.mono hb2.size)
    clear hI2 hb2 hb3 hbel2
    obtain ⟨o, ho⟩ : ∃ o, chk (listI (bs.take 560)) = o := ⟨_, rfl⟩
    rw [ho]
    have HOO := Lib.hid ho
    clear ho
    cases o with
    | none =>
      have hnil := HO.out HOO.out
      have hch := HCH.out
      rw [hnil] at hch
      obtain rfl : v1 = .nilIface := hch
      have hI1 := (HI.out hnil).below hB13
      clear hnil
      rw [numsOf_none]
      go_wp2_with fail
      have hn1 := hI1.len
      rw [listI_len, hbl] at hn1
      refine (same_any A1 n1 n1 (listI (bs.take 560)) A2 (560 / 4) c2 (listI (bs.take 560)) w3 hI1 hI3 (by omega) (by omega)).mono ?_
      rintro e w4 ⟨rfl, hb4⟩
      rw [decide_eq_true (rfl : listI (bs.take 560) = listI (bs.take 560))]
      have hbel4 := hbel3.trans (hb4.mono hbel3.size)
      clear hb4 hI1 hI3 hbel3 hn1
      go_wp2_with fail
      refine (awake_any w4 (hg.below hbel4 hpos)).mono ?_
      rintro e w5 ⟨rfl, hb5⟩
      go_wp2_with fail
      go_ret
      exact ⟨rfl, hbel4.trans (hb5.mono hbel4.size)⟩
    | some x =>
      obtain ⟨ec, ea⟩ := x
      have h0 : (ec == 0) = false := HC.out _ HOO.out
      have hbad := HD.out ec ea HOO.out
      have hea := HA.out _ HOO.out
      have hn1 := HZ.out (by rw [hbad]; intro x; cases x)
      subst hn1
      have hch := HCH.out
      rw [hbad] at hch
      have hch3 := hch.below hB13
      simp only at hea
      have hsm : IntKind.i64.wrap (4 * ea) = 4 * ea := IntWalk.i64_in _ (by omega)
      have Hsm := Lib.hid hsm
      rw [numsOf_some]
      clear hch hB13 hI3 hbad hea hsm
      go_wp2_with fail
      refine (path_any [(ec, 4 * ea), (ec, ea)] v1 w3 hch3 (hg.below hbel3 hpos) (by simp)).mono ?_
      rintro ev w4 ⟨A4, c4, rfl, hown, hb4⟩
      have hch4 := hch3.below hb4
      have hbel4 := hbel3.trans (hb4.mono hbel3.size)
      clear hch3 hb4 hbel3
      go_wp2_with fail
      refine (code_any ec (4 * ea) [(ec, ea)] v1 w4 hch4 (hg.below hbel4 hpos)).mono ?_
      rintro e w5 ⟨rfl, hb5⟩
      have hbel5 := hbel4.trans (hb5.mono hbel4.size)
      have hown5 := own_below hown hb5
      obtain ⟨g5, cap5, hv, _, _⟩ := hown5.form (by simp)
      injection hv with e1 e2 e3
      subst e1
      have hc0 : w5.cell? ⟨g5, 0, none⟩ = some (.int .i64 (4 * ea)) := by
        have := hown5.cells (g := g5) rfl 0 (.int .i64 (4 * ea)) rfl
        rw [Addr.add_lit, Nat.zero_add] at this
        exact this
      have hc1 : w5.cell? ⟨g5, 1, none⟩ = some (.int .i64 ea) := by
        have := hown5.cells (g := g5) rfl 1 (.int .i64 ea) rfl
        rw [Addr.add_lit, Nat.zero_add] at this
        exact this
      have hsm := Hsm.out
      clear hown hown5 e2 e3 hb5 hbel4 hch4
      go_wp2_with fail
      refine (awake_any w5 (hg.below hbel5 hpos)).mono ?_
      rintro e w6 ⟨rfl, hb6⟩
      go_wp2_with fail
      go_ret
      exact ⟨rfl, hbel5.trans (hb6.mono hbel5.size)⟩
  · exact absurd rfl h4
theorem codeDecodes_walk (A : Option Addr) (n c : Nat) (bs : List UInt8) (w : World) (hR : Rd w A n bs) (hnc : n ≤ c) (hn : n ≤ 9223372036854775807) (hg : ET w) :
    Calls Tryd.prog 5 #[.slice A n c] w fun e w' => e = .returned (.bool true) ∧ Below w.heap.size w w' := by
  by_cases h : n ≤ 560
  · exact codeDecodes_few A n c bs w hR hnc hn hg h
  · exact codeDecodes_many A n c bs w hR hnc hn hg (by omega)
end Go.Proofs.YtdkhbnkhpebkkaaDoor
