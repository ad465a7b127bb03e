/- strconv.ParseUint(x, 16, 8) at two bytes. -/
import Derived.Test.YtneekcggbnodnaaGreatDoorLexSpan
import Derived.Lib.ConvBytes
namespace Go.Proofs.YtneekcggbnodnaaGreatDoor
open Go Go.RowKit Go.Lib Go.Sort
set_option linter.unusedSimpArgs false
set_option linter.unusedVariables false


/-- What ParseUint takes a byte for: a digit's worth below 36, or none. -/
def low (c : UInt8) : Nat := c.toNat ||| 32
theorem low_lt (c : UInt8) : low c < 256 := by
  unfold low
  have := c.toNat_lt
  exact Nat.or_lt_two_pow (n := 8) (by omega) (by omega)
theorem low_facts (c : UInt8) : (97 ≤ low c ∧ low c ≤ 122) ↔ (65 ≤ c.toNat ∧ c.toNat ≤ 90 ∨ 97 ≤ c.toNat ∧ c.toNat ≤ 122) := by
  have h : ∀ n : Fin 256, (97 ≤ (n.val ||| 32) ∧ (n.val ||| 32) ≤ 122) ↔ (65 ≤ n.val ∧ n.val ≤ 90 ∨ 97 ≤ n.val ∧ n.val ≤ 122) := by decide +kernel
  exact h ⟨c.toNat, c.toNat_lt⟩
theorem low_val (c : UInt8) (h : 65 ≤ c.toNat ∧ c.toNat ≤ 90 ∨ 97 ≤ c.toNat ∧ c.toNat ≤ 122) : low c = if c.toNat ≤ 90 then c.toNat + 32 else c.toNat := by
  have k : ∀ n : Fin 256, (65 ≤ n.val ∧ n.val ≤ 90 ∨ 97 ≤ n.val ∧ n.val ≤ 122) → (n.val ||| 32) = if n.val ≤ 90 then n.val + 32 else n.val := by decide +kernel
  exact k ⟨c.toNat, c.toNat_lt⟩ h
def hexv (c : UInt8) : Option Nat :=
  if 48 ≤ c.toNat ∧ c.toNat ≤ 57 then some (c.toNat - 48) else if 97 ≤ low c ∧ low c ≤ 102 then some (low c - 87) else none
theorem low_any (c : UInt8) (w : World) : Calls Tryz.prog 223 #[.int .u8 (c.toNat : Int)] w fun e w' => e = .returned (.int .u8 (low c : Nat)) ∧ w = w' := by
  go_enter Tryz.func223, Tryz.ntmps223
  go_wp2
  go_ret
  refine ⟨ret_int ?_, rfl⟩
  have k : ∀ n : Fin 256, Go.bits .or .u8 (n.val : Int) 32 = ((n.val ||| 32 : Nat) : Int) := by decide +kernel
  exact k ⟨c.toNat, c.toNat_lt⟩
theorem low_95 (w : World) : Calls Tryz.prog 223 #[.int .u8 95] w fun e w' => e = .returned (.int .u8 127) ∧ w = w' := low_any 95 w
/-- The four kinds of bytes. -/
theorem byte_cases (c : UInt8) : (48 ≤ c.toNat ∧ c.toNat ≤ 57 ∧ hexv c = some (c.toNat - 48)) ∨ (¬ (48 ≤ c.toNat ∧ c.toNat ≤ 57) ∧ 97 ≤ low c ∧ low c ≤ 102 ∧ hexv c = some (low c - 87)) ∨
    (¬ (48 ≤ c.toNat ∧ c.toNat ≤ 57) ∧ 103 ≤ low c ∧ low c ≤ 122 ∧ hexv c = none) ∨ (¬ (48 ≤ c.toNat ∧ c.toNat ≤ 57) ∧ ¬ (97 ≤ low c ∧ low c ≤ 122) ∧ hexv c = none) := by
  unfold hexv
  by_cases h : 48 ≤ c.toNat ∧ c.toNat ≤ 57
  · exact .inl ⟨h.1, h.2, by rw [if_pos h]⟩
  · rw [if_neg h]
    by_cases h2 : 97 ≤ low c ∧ low c ≤ 102
    · exact .inr (.inl ⟨h, h2.1, h2.2, by rw [if_pos h2]⟩)
    · rw [if_neg h2]
      by_cases h3 : 97 ≤ low c ∧ low c ≤ 122
      · exact .inr (.inr (.inl ⟨h, by omega, h3.2, rfl⟩))
      · exact .inr (.inr (.inr ⟨h, h3, rfl⟩))
def hexPair (a b : UInt8) : Option Nat := match hexv a, hexv b with | some x, some y => some (x * 16 + y) | _, _ => none
def HexRel (a b : UInt8) (k m : Nat) : Prop := k = 0 ∧ m = 0 ∨ k = 1 ∧ hexv a = some m ∨ k = 2 ∧ hexPair a b = some m
theorem hexv_lt {c : UInt8} {x : Nat} (h : hexv c = some x) : x < 16 := by
  unfold hexv at h
  split at h
  · simp at h; omega
  · split at h
    · simp at h; omega
    · cases h
/-- What a round needs of its byte. -/
theorem hex_round {a b : UInt8} {k : Nat} {z : Int} (hz : 0 ≤ z) (h : HexRel a b k z.toNat) (hk : k < 2) : ∃ c, c = [a, b].getD k 0 ∧ z < 16 ∧ Hid (∀ x : Nat, hexv c = some x → HexRel a b (k + 1) (z * 16 + x).toNat) ∧ Hid (hexv c = none → hexPair a b = none) := by
  obtain ⟨m, rfl⟩ : ∃ m : Nat, z = m := ⟨z.toNat, by omega⟩
  simp only [Int.toNat_natCast] at h
  have e : ∀ x : Nat, ((m : Int) * 16 + x).toNat = m * 16 + x := fun x => by omega
  rcases h with ⟨rfl, rfl⟩ | ⟨rfl, h⟩ | ⟨rfl, h⟩
  · refine ⟨a, rfl, by omega, fun x hx => .inr (.inl ⟨rfl, by rw [e, hx]; simp⟩), fun hx => by unfold hexPair; rw [hx]⟩
  · have := hexv_lt h
    refine ⟨b, rfl, by omega, fun x hx => .inr (.inr ⟨rfl, by rw [e]; unfold hexPair; rw [h, hx]⟩), fun hx => by unfold hexPair; rw [h, hx]⟩
  · omega
def HexEnd (v : Option Nat) (w : World) (e : Ending) (w' : World) : Prop :=
  (match v with | some m => e = .returned (.tuple #[.int .u64 m, .nilIface]) | none => e = .returned (.tuple #[.int .u64 0, .iface 374 (.int .i64 2)])) ∧ Below w.heap.size w w'

theorem hexEnd_none {v : Option Nat} {w w' : World} (h : v = none) (hb : Below w.heap.size w w') : HexEnd v w (.returned (.tuple #[.int .u64 0, .iface 374 (.int .i64 2)])) w' := by
  subst h
  exact ⟨rfl, hb⟩
theorem hexEnd_some {v : Option Nat} {z : Int} {w w' : World} (h : v = some z.toNat) (hz : 0 ≤ z) (hb : Below w.heap.size w w') : HexEnd v w (.returned (.tuple #[.int .u64 z, .nilIface])) w' := by
  subst h
  obtain ⟨m, rfl⟩ : ∃ m : Nat, z = m := ⟨z.toNat, by omega⟩
  exact ⟨rfl, hb⟩
set_option maxHeartbeats 4000000 in
set_option maxRecDepth 100000 in
theorem inParse16 (s : ByteArray) (a b : UInt8) (hs : s.data.toList = [a, b]) (w : World) :
    Calls Tryz.prog 213 #[.string s, .int .i64 16, .int .i64 8] w (HexEnd (hexPair a b) w) := by
  have h0 : s.toList ≠ [] := by rw [ByteArray.toList_eq, hs]; simp
  have h1 : s.toList.isEmpty = false := by simpa using h0
  have h2 : s.size = 2 := by
    have : s.data.toList.length = 2 := by rw [hs]; rfl
    simpa using this
  have HS := Lib.hid hs
  clear hs
  have hconv := Go.Lib.run_convert_string_bytes (P := Tryz.prog) w 9 351 5 s (u := .string) Tryz.underlying9 Tryz.underlying351 Tryz.underlying5
  have hcells := bytesWorld_cell w 5 s
  have hB := bytesW_below w 5 s
  generalize bytesWorld w 5 s = W at hconv hcells hB
  generalize hC : grownCap w s.size 0 5 = C at hconv
  have HB := Lib.hid hB
  clear hB
  generalize hN : w.heap.size = N at hconv hcells
  rw [h2] at hconv
  clear hC
  have hcell : ∀ k, k < 2 → W.cell? ⟨N, k, none⟩ = some (.int .u8 (([a, b].getD k 0).toNat : Int)) := by
    intro k hk
    rw [hcells k (by omega), HS.out]
  have HC := Lib.hid hcell
  have HN := Lib.hid hN
  clear hcell hN hcells
  go_enter Tryz.func213, Tryz.ntmps213
  go_wp2
  clear hconv h1 h0
  go_loop [12, 13, 101] (fun u n i => ∃ (k : Nat) (z : Int), u = .bool false ∧ i = .int .i64 k ∧ n = .int .u64 z ∧ k ≤ 2 ∧ 0 ≤ z ∧ z ≤ 255 ∧ Hid (HexRel a b k z.toNat)) (fun _ _ i => 2 - (intOf i).toNat)
  case atStart => exact ⟨0, 0, rfl, rfl, rfl, by omega, by omega, by omega, .inl ⟨rfl, rfl⟩⟩
  case round =>
    obtain ⟨k, z, rfl, rfl, rfl, hk, hz0, hz1, hr⟩ := hrel
    by_cases hlt : k < 2
    · obtain ⟨c, hc, hm, hx, hn⟩ := hex_round hz0 hr.out hlt
      have hcell := HC.out k hlt
      rw [← hc] at hcell
      have hc2 := c.toNat_lt
      have hl := low_any c
      have HL := Lib.hid hl
      clear hc hl hz1
      rcases byte_cases c with ⟨p1, p2, p3⟩ | ⟨p1, p2, p3, p4⟩ | ⟨p1, p2, p3, p4⟩ | ⟨p1, p2, p3⟩
      · have P := Lib.hid p3
        clear p3
        go_wp2_with (go_at_call 223; refine (HL.out _).mono ?_; rintro e w' ⟨rfl, rfl⟩)
        go_round
        case rel => exact ⟨k + 1, z * 16 + ((c.toNat : Int) - 48), rfl, by go_num, rfl, by omega, by omega, by omega, by have := hx.out _ P.out; rw [show ((c.toNat - 48 : Nat) : Int) = (c.toNat : Int) - 48 from by omega] at this; exact this⟩
        case measure => simp [intOf]; omega
      · have P := Lib.hid p4
        have h95 : ((c.toNat : Int) == 95) = false := by
          apply beq_false_of_ne
          have := (low_facts c).1 (by omega)
          omega
        clear p4
        go_wp2_with (go_at_call 223; refine (HL.out _).mono ?_; rintro e w' ⟨rfl, rfl⟩)
        all_goals
          go_round
          case rel => exact ⟨k + 1, z * 16 + ((low c : Int) - 97 + 10), rfl, by go_num, rfl, by omega, by omega, by omega, by have := hx.out _ P.out; rw [show ((low c - 87 : Nat) : Int) = (low c : Int) - 97 + 10 from by omega] at this; exact this⟩
          case measure => simp [intOf]; omega
      · have P := Lib.hid p4
        have h95 : ((c.toNat : Int) == 95) = false := by
          apply beq_false_of_ne
          have := (low_facts c).1 (by omega)
          omega
        clear p4
        go_wp2_with (go_at_call 223; refine (HL.out _).mono ?_; rintro e w' ⟨rfl, rfl⟩)
        all_goals
          go_ret2
          exact hexEnd_none (hn.out P.out) HB.out
      · have P := Lib.hid p3
        clear p3
        by_cases h5 : c.toNat = 95
        · have hcell' : W.cell? ⟨N, k, none⟩ = some (.int .u8 95) := by rw [hcell, h5]; rfl
          clear hcell h5 p1 p2 hc2 HL
          go_wp2_with (go_at_call 223; refine (low_95 _).mono ?_; rintro e w' ⟨rfl, rfl⟩)
          go_ret2
          exact hexEnd_none (hn.out P.out) HB.out
        · have h95 : ((c.toNat : Int) == 95) = false := by
            apply beq_false_of_ne
            omega
          clear h5
          go_wp2_with (go_at_call 223; refine (HL.out _).mono ?_; rintro e w' ⟨rfl, rfl⟩)
          all_goals
            go_ret2
            exact hexEnd_none (hn.out P.out) HB.out
    · have e2 : k = 2 := by omega
      subst e2
      have hp : hexPair a b = some z.toNat := by
        rcases hr.out with ⟨h, _⟩ | ⟨h, _⟩ | ⟨_, h⟩
        · omega
        · omega
        · exact h
      have P := Lib.hid hp
      clear hp hlt
      go_wp2
      go_ret2
      exact hexEnd_some P.out hz0 HB.out

theorem in16_ok (s : ByteArray) (a b : UInt8) (hs : s.data.toList = [a, b]) (m : Nat) (h : hexPair a b = some m) (w : World) :
    Calls Tryz.prog 213 #[.string s, .int .i64 16, .int .i64 8] w fun e w' => e = .returned (.tuple #[.int .u64 m, .nilIface]) ∧ Below w.heap.size w w' := by
  refine (inParse16 s a b hs w).mono ?_
  rintro e w' ⟨h1, hb⟩
  rw [h] at h1
  exact ⟨h1, hb⟩
theorem in16_no (s : ByteArray) (a b : UInt8) (hs : s.data.toList = [a, b]) (h : hexPair a b = none) (w : World) :
    Calls Tryz.prog 213 #[.string s, .int .i64 16, .int .i64 8] w fun e w' => e = .returned (.tuple #[.int .u64 0, .iface 374 (.int .i64 2)]) ∧ Below w.heap.size w w' := by
  refine (inParse16 s a b hs w).mono ?_
  rintro e w' ⟨h1, hb⟩
  rw [h] at h1
  exact ⟨h1, hb⟩
theorem parse16_ok (s : ByteArray) (a b : UInt8) (hs : s.data.toList = [a, b]) (m : Nat) (h : hexPair a b = some m) (w : World) :
    Calls Tryz.prog 205 #[.string s, .int .i64 16, .int .i64 8] w fun e w' => e = .returned (.tuple #[.int .u64 m, .nilIface]) ∧ Below w.heap.size w w' := by
  have C := Lib.hid (in16_ok s a b hs m h)
  clear hs h
  go_enter Tryz.func205, Tryz.ntmps205
  go_wp2_with (go_at_call 213; refine (C.out _).mono ?_; rintro e w' ⟨rfl, hb⟩)
  go_ret2
  exact ⟨rfl, hb⟩
theorem parse16_no (s : ByteArray) (a b : UInt8) (hs : s.data.toList = [a, b]) (h : hexPair a b = none) (w : World) (hg : Glob w) :
    Calls Tryz.prog 205 #[.string s, .int .i64 16, .int .i64 8] w fun e w' => (∃ (z : Int) (t : TypeId) (p : Value), e = .returned (.tuple #[.int .u64 z, .iface t p])) ∧ Below w.heap.size w w' := by
  have C := Lib.hid (in16_no s a b hs h)
  have HG := Lib.hid hg
  have hsz : s.size = 2 := by
    have : s.data.toList.length = 2 := by rw [hs]; rfl
    simpa using this
  have HZ := Lib.hid hsz
  have HE : ∀ W, Glob W → Calls Tryz.prog 214 #[.string ⟨#[80, 97, 114, 115, 101, 85, 105, 110, 116]⟩, .string s, .int .i64 16, .int .i64 8, .iface 374 (.int .i64 2)] W fun e w' => (∃ N, e = .returned (.iface 376 (.pointer (some ⟨N, 0, none⟩)))) ∧ Below W.heap.size W w' := by
    intro W hW
    obtain ⟨tp, p, hv⟩ := hW.syn
    have hc : W.cell? ⟨1, 0, none⟩ = some (.iface tp p) := by have := World.var?_cell gSyn hv 0; simpa using this
    refine (Tryz.strconv_toError_syntax _ s 16 8 (.iface tp p) W (by omega) hc (.inr ⟨_, _, rfl⟩)).mono ?_
    rintro e w' ⟨N, rfl, _, _, hb⟩
    exact ⟨⟨N, rfl⟩, hb⟩
  have HE' := Lib.hid HE
  clear hs h hg hsz HE
  go_enter Tryz.func205, Tryz.ntmps205
  go_wp2_with (go_at_call 213; refine (C.out _).mono ?_; rintro e w' ⟨rfl, hb⟩)
  have HG1 := Lib.hid (HG.out.below hb)
  refine (HE'.out _ HG1.out).mono ?_
  rintro e w2 ⟨⟨N, rfl⟩, hb2⟩
  go_wp2
  go_ret2
  exact ⟨⟨_, _, _, rfl⟩, Below.step hb hb2⟩
end Go.Proofs.YtneekcggbnodnaaGreatDoor
