/- sign: the longest sign that begins here. -/
import Derived.Test.YtneekcggbnodnaaGreatDoorLexNumber
namespace Go.Proofs.YtneekcggbnodnaaGreatDoor
open Go Go.RowKit Go.Lib
set_option linter.unusedSimpArgs false
set_option linter.unusedVariables false

def signList : List (List UInt8) := [[61, 61, 61], [33, 61, 61], [60, 61], [62, 61], [38, 38], [124, 124], [61, 62], [45, 62], [123], [125], [40], [41], [91], [93], [44], [59], [61], [46], [43], [45], [42], [37], [33], [60], [62], [124]]
def signB (l : List UInt8) : Bool := signList.contains l
def signsText : List UInt8 := 32 :: signList.flatMap (fun w => w ++ [32])
theorem signs_plain : ∀ w ∈ signList, 32 ∉ w := by decide
theorem signs_contain (l : List UInt8) (h : 32 ∉ l) : Lib.contains signsText (32 :: (l ++ [32])) = signB l := contains_list l h signList signs_plain
def signsStr : ByteArray := ⟨signsText.toArray⟩
set_option maxRecDepth 100000 in
theorem signsStr_size : signsStr.size < 4294967281 := by decide

/-- How long the sign is that begins here, of at most so many bytes; 0: none. -/
def signFrom : Nat → List UInt8 → Nat
  | 0, _ => 0
  | k + 1, l => if signB (l.take (k + 1)) then k + 1 else signFrom k l
def signN (l : List UInt8) : Nat := signFrom (min 3 l.length) l
def SignEnd (B p : Nat) (s : ByteArray) (line : Int) (l : List Tk) (bad : Bool) (n : Nat) (w : World) (e : Ending) (w' : World) : Prop :=
  e = .returned (.tuple #[]) ∧ Below B w w' ∧ (n = 0 → ScBad B p line w') ∧ (n ≠ 0 → ∃ v', Sc B p (s.extract n s.size) line v' (l ++ [⟨6, s.extract 0 n, 0, line⟩]) bad w')

set_option maxHeartbeats 4000000 in
set_option maxRecDepth 100000 in
theorem sign_any (B p : Nat) (s : ByteArray) (line : Int) (v : Value) (l : List Tk) (bad : Bool) (w : World) (h : Sc B p s line v l bad w) (hs : s.size ≤ 140737488355328) (hlen : l.length ≤ 1000000) (hBw : B ≤ w.heap.size) (hg : Glob w) :
    Calls Tryz.prog 124 #[.pointer (some ⟨p, 0, none⟩)] w (SignEnd B p s line l bad (signN s.data.toList) w) := by
  have hl : s.data.toList.length = s.size := by simp
  have c0 : w.cell? ⟨p, 0, none⟩ = some (.string s) := by rw [Lib.cell_of_heap h.lies]; rfl
  have c3 : w.cell? ⟨p, 3, none⟩ = some (.bool bad) := by rw [Lib.cell_of_heap h.lies]; rfl
  have f3 : w.frozen? ⟨p, 3, none⟩ = false := Lib.frozen_of_heap h.lies 3
  have hN : signFrom (min 3 s.size) s.data.toList = signN s.data.toList := by rw [signN, hl]
  generalize signN s.data.toList = N at hN ⊢
  have HN := Lib.hid hN
  have H := Lib.hid h
  have HG := Lib.hid hg
  clear h hg hl hN
  go_enter Tryz.func124, Tryz.ntmps124
  go_wp2_with fail
  go_loop [2] (fun i => ∃ k : Nat, i = .int .i64 k ∧ k ≤ 3 ∧ k ≤ s.size ∧ Hid (signFrom k s.data.toList = N)) (fun i => (intOf i).toNat)
  case atStart => exact ⟨min 3 s.size, by congr 1; omega, by omega, by omega, HN.out⟩
  case round =>
    obtain ⟨k, rfl, hk3, hks, hr⟩ := hrel
    by_cases hk : 0 < k
    · have hx : (s.extract 0 k).data.toList = s.data.toList.take k := by simp
      have hrr : (if signB (s.extract 0 k).data.toList then k else signFrom (k - 1) s.data.toList) = N := by
        rw [← hr.out, hx]
        obtain ⟨j, rfl⟩ : ∃ j, k = j + 1 := ⟨k - 1, by omega⟩
        rfl
      have C1 : Hid (∀ w, Glob w → Calls Tryz.prog 203 #[.string signsStr, .string ((⟨#[32]⟩ : ByteArray) ++ s.extract 0 k ++ (⟨#[32]⟩ : ByteArray))] w fun e w' => e = .returned (.bool (Lib.contains signsText (32 :: ((s.extract 0 k).data.toList ++ [32])))) ∧ w = w') := by
        intro w hg
        refine (contains_any signsStr _ signsStr_size w hg).mono ?_
        rintro e w' ⟨rfl, rfl⟩
        exact ⟨ret_bool (by simp [signsStr]), rfl⟩
      have C2 := contains_blank (s.extract 0 k)
      have hm0 : (0 : Int) ≤ (k : Int) := by omega
      have hm1 : (k : Int) ≤ (s.size : Int) := by omega
      by_cases hb : 32 ∈ (s.extract 0 k).data.toList
      · rw [no_blank signList signs_plain _ hb |> fun e => (e : signB _ = false)] at hrr
        rw [decide_eq_true hb] at C2
        generalize Lib.contains signsText (32 :: ((s.extract 0 k).data.toList ++ [32])) = b1 at C1
        have HC2 := Lib.hid C2
        have HR := Lib.hid hrr
        clear C2 hrr hb hx
        cases b1
        · go_wp2_with fail
          refine (C1.out _ HG.out).mono ?_
          rintro e w' ⟨rfl, rfl⟩
          go_wp2
          go_round
          case rel => exact ⟨k - 1, by congr 1; omega, by omega, by omega, (show signFrom (k - 1) s.data.toList = N by simpa using HR.out)⟩
          case measure => simp [intOf]; omega
        · go_wp2_with fail
          refine (C1.out _ HG.out).mono ?_
          rintro e w' ⟨rfl, rfl⟩
          go_wp2_with fail
          refine (HC2.out _).mono ?_
          rintro e w' ⟨rfl, rfl⟩
          go_wp2
          go_round
          case rel => exact ⟨k - 1, by congr 1; omega, by omega, by omega, (show signFrom (k - 1) s.data.toList = N by simpa using HR.out)⟩
          case measure => simp [intOf]; omega
      · rw [signs_contain _ hb] at C1
        rw [decide_eq_false hb] at C2
        generalize signB (s.extract 0 k).data.toList = b1 at C1 hrr
        have HC2 := Lib.hid C2
        have HR := Lib.hid hrr
        clear C2 hrr hb hx
        cases b1
        · go_wp2_with fail
          refine (C1.out _ HG.out).mono ?_
          rintro e w' ⟨rfl, rfl⟩
          go_wp2
          go_round
          case rel => exact ⟨k - 1, by congr 1; omega, by omega, by omega, (show signFrom (k - 1) s.data.toList = N by simpa using HR.out)⟩
          case measure => simp [intOf]; omega
        · go_wp2_with fail
          refine (C1.out _ HG.out).mono ?_
          rintro e w' ⟨rfl, rfl⟩
          go_wp2_with fail
          refine (HC2.out _).mono ?_
          rintro e w' ⟨rfl, rfl⟩
          go_wp2_with fail
          refine (put_any B p s line v l bad ⟨6, s.extract 0 k, 0, 0⟩ k _ H.out hm0 hm1 hs hlen hBw).mono ?_
          rintro e w5 ⟨rfl, v5, h5, hb5⟩
          go_wp2
          go_end0
          have e1 : k = N := by simpa using HR.out
          subst e1
          exact ⟨rfl, hb5, fun e => by omega, fun _ => ⟨v5, h5⟩⟩
    · have e1 : k = 0 := by omega
      subst e1
      have hn : N = 0 := by rw [← hr.out]; rfl
      have HN0 := Lib.hid hn
      clear hn hk
      go_wp2
      go_end0
      exact ⟨rfl, (Below.refl B w).setCell (p := ⟨p, 3, none⟩) H.out.base _, fun _ => (H.out.setBad true).isBad, fun e => absurd HN0.out e⟩
end Go.Proofs.YtneekcggbnodnaaGreatDoor
