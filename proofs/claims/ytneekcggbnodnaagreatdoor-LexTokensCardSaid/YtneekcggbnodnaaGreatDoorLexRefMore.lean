/- The reference's digits, sign and text answer as the plain functions do. -/
import Derived.Test.YtneekcggbnodnaaGreatDoorLexRefParts
import Derived.Maps.AppendAt
import Derived.Laws.OwnMore
import Derived.BigQuiet
namespace Go.Proofs.YtneekcggbnodnaaGreatDoor
open Go Go.RowKit Go.Lib
set_option linter.unusedSimpArgs false
set_option linter.unusedVariables false

def DigEnd (R : Option Nat) (w : World) (e : Ending) (w' : World) : Prop :=
  (match R with | some u => e = .returned (.tuple #[.int .u64 (u : Int), .bool true]) | none => e = .returned (.tuple #[.int .u64 0, .bool false])) ∧ w = w'
theorem digEnd_none {R : Option Nat} {w : World} (h : R = none) : DigEnd R w (.returned (.tuple #[.int .u64 0, .bool false])) w := by subst h; exact ⟨rfl, rfl⟩
theorem digEnd_some {R : Option Nat} {z : Int} {w : World} (h : R = some z.toNat) (hz : 0 ≤ z) : DigEnd R w (.returned (.tuple #[.int .u64 z, .bool true])) w := by
  subst h
  obtain ⟨m, rfl⟩ : ∃ m : Nat, z = m := ⟨z.toNat, by omega⟩
  exact ⟨rfl, rfl⟩
set_option maxHeartbeats 1000000 in
theorem digits_any (s : ByteArray) (hs : s.size ≤ 1000000) (hs0 : 0 < s.size) (hd : ∀ c ∈ s.data.toList, digitB c = true) (w : World) : Calls Tryz.prog 130 #[.string s] w (DigEnd (digitsR s.data.toList) w) := by
  have hl : s.data.toList.length = s.size := by simp
  obtain ⟨R, hR⟩ : ∃ R, R = digitsR s.data.toList := ⟨_, rfl⟩
  rw [← hR]
  have HR := Lib.hid hR
  have HL := Lib.hid hl
  clear hR hl
  by_cases h20 : 20 < s.size
  · have m1 : (20 : Int) < (s.size : Int) := by omega
    have HN : Hid (R = none) := by
      unfold Hid
      rw [HR.out, digitsR, if_pos (.inl (by rw [HL.out]; exact h20))]
    clear hd
    go_enter Tryz.func130, Tryz.ntmps130
    go_wp2
    go_ret2
    exact digEnd_none HN.out
  · have m1 : (s.size : Int) ≤ 20 := by omega
    have hhead : s.data.toList.head? = some s[0] := by
      rcases hL : s.data.toList with _ | ⟨c, r⟩
      · have := HL.out; rw [hL] at this; simp at this; omega
      · have : s[0] = c := by rw [byte_at]; simp [hL]
        rw [this]; rfl
    have HH := Lib.hid hhead
    clear hhead
    by_cases hz : 1 < s.size ∧ s[0] = 48
    · have m2 : (1 : Int) < (s.size : Int) := by omega
      have t1 : ((s[0].toNat : Int) == 48) = true := byte_is 48 (by decide) hz.2
      have HN : Hid (R = none) := by
        unfold Hid
        rw [HR.out, digitsR, if_pos (.inr ⟨by rw [HL.out]; exact hz.1, by rw [HH.out, hz.2]⟩)]
      clear hd hz
      go_enter Tryz.func130, Tryz.ntmps130
      go_wp2
      go_ret2
      exact digEnd_none HN.out
    · have HN : Hid (R = digF 0 s.data.toList) := by
        unfold Hid
        rw [HR.out, digitsR, if_neg]
        rintro (h | ⟨h1, h2⟩)
        · rw [HL.out] at h; exact h20 h
        · rw [HH.out] at h2
          rw [HL.out] at h1
          exact hz ⟨h1, Option.some.inj h2⟩
      have hcase : (s.size : Int) ≤ 1 ∨ (1 : Int) < (s.size : Int) ∧ ((s[0].toNat : Int) == 48) = false := by
        by_cases h1 : 1 < s.size
        · exact .inr ⟨by omega, byte_ne 48 (by decide) (fun e => hz ⟨h1, e⟩)⟩
        · exact .inl (by omega)
      have HD : Hid (∀ k (h : k < s.size), 48 ≤ (s[k].toNat : Int) ∧ (s[k].toNat : Int) ≤ 57) := by
        intro k h
        have := digitB_iff.1 (hd s[k] (by rw [byte_at]; exact List.getElem_mem _))
        omega
      clear hd hz h20
      have hdrop : Hid (∀ k (h : k < s.size), s.data.toList.drop k = s[k] :: s.data.toList.drop (k + 1)) := by
        intro k h
        rw [byte_at, List.drop_eq_getElem_cons (by rw [HL.out]; exact h)]
      rcases hcase with h1 | ⟨h1, t1⟩
      all_goals
        go_enter Tryz.func130, Tryz.ntmps130
        go_wp2
        go_loop [4, 5] (fun n i => ∃ (k : Nat) (z : Int), k ≤ s.size ∧ i = .int .i64 k ∧ n = .int .u64 z ∧ 0 ≤ z ∧ z ≤ 9223372036854775808 ∧ Hid (digF z.toNat (s.data.toList.drop k) = R)) (fun _ i => s.size - (intOf i).toNat)
        case atStart => exact ⟨0, 0, Nat.zero_le _, rfl, rfl, by omega, by omega, HN.out.symm⟩
        case round =>
          obtain ⟨k, z, hk, rfl, rfl, z0, z1, hr⟩ := hrel
          by_cases hlt : k < s.size
          · obtain ⟨c1, c2⟩ := HD.out k hlt
            have hr2 : (if topN < z.toNat * 10 + (s[k].toNat - 48) then none else digF (z.toNat * 10 + (s[k].toNat - 48)) (s.data.toList.drop (k + 1))) = R := by
              rw [← hr.out, hdrop.out k hlt, digF]
            have ht : topN = 9223372036854775808 := rfl
            by_cases hbig : 9223372036854775808 < z * 10 + ((s[k].toNat : Int) - 48)
            · have HX : Hid (R = none) := by
                unfold Hid
                rw [← hr2, if_pos (by rw [ht]; omega)]
              have d1 : decide (z > (9223372036854775808 - ((s[k].toNat : Int) - 48)) / 10) = true := decide_eq_true (by omega)
              clear hr2 ht hr
              go_wp2
              go_ret2
              exact digEnd_none HX.out
            · have HX : Hid (digF (z * 10 + ((s[k].toNat : Int) - 48)).toNat (s.data.toList.drop (k + 1)) = R) := by
                unfold Hid
                rw [← hr2, if_neg (by rw [ht]; omega)]
                congr 1
                omega
              have d1 : decide (z > (9223372036854775808 - ((s[k].toNat : Int) - 48)) / 10) = false := decide_eq_false (by omega)
              clear hr2 ht hr
              go_wp2
              go_round
              case rel => exact ⟨k + 1, z * 10 + ((s[k].toNat : Int) - 48), by omega, by go_num, rfl, by omega, by omega, HX⟩
              case measure => simp [intOf]; omega
          · have HX : Hid (R = some z.toNat) := by
              unfold Hid
              rw [← hr.out, List.drop_eq_nil_of_le (by rw [HL.out]; omega)]
              rfl
            clear hr
            go_wp2
            go_ret2
            exact digEnd_some HX.out z0

def signCells : Array Value := (signList.map fun w => Value.string ⟨w.toArray⟩).toArray
theorem signRF_drop (k : Nat) (h : k < signList.length) (L : List UInt8) : signRF (signList.drop k) L = if L.take (signList[k]).length = signList[k] then (signList[k]).length else signRF (signList.drop (k + 1)) L := by
  rw [List.drop_eq_getElem_cons h, signRF]
set_option maxHeartbeats 2000000 in
set_option maxRecDepth 100000 in
theorem refSign_any (s : ByteArray) (hs : s.size ≤ 1000000) (w : World) : Calls Tryz.prog 132 #[.string s] w fun e w' => e = .returned (.int .i64 (signN s.data.toList : Nat)) ∧ Below w.heap.size w w' := by
  have hl : s.data.toList.length = s.size := by simp
  rw [← signRF_eq]
  obtain ⟨n, hn⟩ : ∃ n, n = signRF signList s.data.toList := ⟨_, rfl⟩
  rw [← hn]
  have HN := Lib.hid hn
  have HL := Lib.hid hl
  have hc0 : ∀ k (h : k < signList.length), (w.alloc (.cells signCells 9)).cell? ⟨w.heap.size, k, none⟩ = some (.string ⟨(signList[k]).toArray⟩) := by
    intro k h
    rw [Lib.cell_of_heap (heap_alloc_new w _)]
    simp [signCells, h]
  have hb0 : Below w.heap.size w (w.alloc (.cells signCells 9)) := (Below.refl _ w).alloc (Nat.le_refl _) _
  have hsl : signList.length = 26 := rfl
  clear hn hl
  go_enter Tryz.func132, Tryz.ntmps132
  go_wp2_with fail
  rw [show (#[Value.string ⟨#[61, 61, 61]⟩, .string ⟨#[33, 61, 61]⟩, .string ⟨#[60, 61]⟩, .string ⟨#[62, 61]⟩, .string ⟨#[38, 38]⟩, .string ⟨#[124, 124]⟩, .string ⟨#[61, 62]⟩, .string ⟨#[45, 62]⟩, .string ⟨#[123]⟩, .string ⟨#[125]⟩, .string ⟨#[40]⟩, .string ⟨#[41]⟩, .string ⟨#[91]⟩, .string ⟨#[93]⟩, .string ⟨#[44]⟩, .string ⟨#[59]⟩, .string ⟨#[61]⟩, .string ⟨#[46]⟩, .string ⟨#[43]⟩, .string ⟨#[45]⟩, .string ⟨#[42]⟩, .string ⟨#[37]⟩, .string ⟨#[33]⟩, .string ⟨#[60]⟩, .string ⟨#[62]⟩, .string ⟨#[124]⟩] : Array Value) = signCells from rfl]
  generalize w.alloc (.cells signCells 9) = W at hc0 hb0 ⊢
  have HC := Lib.hid hc0
  have HB := Lib.hid hb0
  have HSL := Lib.hid hsl
  clear hc0 hb0 hsl
  go_loopw [4] (fun i wr => ∃ k : Nat, i = .int .i64 k ∧ k ≤ 26 ∧ Hid (∃ m, wr = W.drewN m) ∧ Hid (signRF (signList.drop k) s.data.toList = n)) (fun i _ => 26 - (intOf i).toNat)
  case atStart => exact ⟨0, rfl, by omega, ⟨0, rfl⟩, HN.out.symm⟩
  case round =>
    obtain ⟨k, rfl, hk, hw, hr⟩ := hrel
    by_cases hlt : k < 26
    · have hlt2 : k < signList.length := by rw [HSL.out]; exact hlt
      have hcell : wr.cell? ⟨w.heap.size, k, none⟩ = some (.string ⟨(signList[k]).toArray⟩) := by
        obtain ⟨m, hm⟩ := hw.out
        rw [hm]
        exact HC.out k hlt2
      have hr2 := signRF_drop k hlt2 s.data.toList
      rw [hr.out] at hr2
      have h3 := sign_long _ (List.getElem_mem hlt2)
      obtain ⟨X, hX⟩ : ∃ X : ByteArray, X = ⟨(signList[k]).toArray⟩ := ⟨_, rfl⟩
      have hXl : X.data.toList = signList[k] := by rw [hX]
      have hXs : X.size = (signList[k]).length := by rw [hX]; simp [ByteArray.size]
      rw [← hX] at hcell
      have hx : (s.extract 0 X.size).toList = s.data.toList.take X.size := by rw [ByteArray.toList_eq]; simp
      rw [← hXl, show X.data.toList.length = X.size from by simp] at hr2
      have m1 : (0 : Int) ≤ (k : Int) := by omega
      have m2 : (k : Int) < 26 := by omega
      have m3 : X.size ≤ 3 := by omega
      have HW := Lib.hid hw.out
      have HX := Lib.hid hx
      by_cases hsz : X.size ≤ s.size
      · have d1 : decide (X.size ≤ s.size) = true := decide_eq_true hsz
        have d2 : decide ((s.size : Int) ≥ (X.size : Int)) = true := decide_eq_true (by omega)
        by_cases hq : s.data.toList.take X.size = X.data.toList
        · have q1 : ((s.extract 0 X.size).toList == X.toList) = true := by rw [HX.out, ByteArray.toList_eq, hq]; simp
          rw [if_pos hq] at hr2
          have HR := Lib.hid hr2
          clear hr hr2 hq hXl hXs h3 hX hx hlt2
          go_wp2_with fail
          go_quiet (fail)
          go_wp2_with fail
          go_ret
          refine ⟨by rw [HR.out]; rfl, ?_⟩
          obtain ⟨m, hm⟩ := HW.out
          rw [hm]
          exact below_drewN (below_drewN HB.out _) _
        · have q1 : ((s.extract 0 X.size).toList == X.toList) = false := by rw [HX.out, ByteArray.toList_eq]; exact beq_false_of_ne hq
          rw [if_neg hq] at hr2
          have HR := Lib.hid hr2
          clear hr hr2 hq hXl hXs h3 hX hx hlt2
          go_wp2_with fail
          go_quiet (fail)
          go_wp2_with fail
          go_roundw
          case rel => exact ⟨k + 1, by go_num, by omega, by obtain ⟨m, hm⟩ := HW.out; exact ⟨m + nq, by rw [hm, World.drewN_drewN]⟩, HR.out.symm⟩
          case measure => simp [intOf]; omega
      · have d1 : decide (X.size ≤ s.size) = false := decide_eq_false hsz
        have d2 : decide ((s.size : Int) ≥ (X.size : Int)) = false := decide_eq_false (by omega)
        have hq : ¬ s.data.toList.take X.size = X.data.toList := by
          intro e
          have := congrArg List.length e
          rw [List.length_take, HL.out, size_of] at this
          omega
        rw [if_neg hq] at hr2
        have HR := Lib.hid hr2
        clear hr hr2 hq hXl hXs h3 hX hx hlt2
        go_wp2_with fail
        go_quiet (fail)
        go_wp2_with fail
        go_roundw
        case rel => exact ⟨k + 1, by go_num, by omega, by obtain ⟨m, hm⟩ := HW.out; exact ⟨m + nq, by rw [hm, World.drewN_drewN]⟩, HR.out.symm⟩
        case measure => simp [intOf]; omega
    · obtain rfl : k = 26 := by omega
      have hz : n = 0 := by rw [← hr.out]; rfl
      have HZ := Lib.hid hz
      have HW := Lib.hid hw.out
      clear hr hz
      go_wp2
      go_ret
      refine ⟨by rw [HZ.out]; rfl, ?_⟩
      obtain ⟨m, hm⟩ := HW.out
      rw [hm]
      exact below_drewN HB.out _
end Go.Proofs.YtneekcggbnodnaaGreatDoor
