/- text: what stands between quotes, as a token. -/
import Derived.Test.YtneekcggbnodnaaGreatDoorLexStep
import Derived.Test.YtneekcggbnodnaaGreatDoorBuilder
import Derived.BigQuiet
namespace Go.Proofs.YtneekcggbnodnaaGreatDoor
open Go Go.RowKit Go.Lib
set_option linter.unusedSimpArgs false
set_option linter.unusedVariables false

theorem hasPrefix_any (s p : ByteArray) (w : World) : Calls Tryz.prog 114 #[.string s, .string p] w fun e w' => e = .returned (.bool (Lib.hasPrefix s.data.toList p.data.toList)) ∧ w = w' := by
  refine (Tryz.strings_HasPrefix s p w).mono ?_
  rintro e w' ⟨rfl, rfl⟩
  exact ⟨rfl, rfl⟩
theorem toLower_any (s : ByteArray) (hs : s.size < 35184372088832) (w : World) (hg : Glob w) : Calls Tryz.prog 207 #[.string s] w fun e w' => e = .returned (.string ⟨(Lib.toLowerD s.data.toList).toArray⟩) ∧ Below w.heap.size w w' :=
  Tryz.strings_ToLower_any s w hs hg.low hg.utf

/-- What holds at each round's head: the rest t, the builder at block N, what it has. -/
def TextRel (N f0 : Nat) (S : Nat) (T : Option (List UInt8 × List UInt8)) (w : World) (t : ByteArray) (wr : World) : Prop :=
  ∃ (vb : Value) (acc : List UInt8) (f : Nat), textEnd f acc t.data.toList = T ∧ t.size < f ∧ acc.length + t.size ≤ S ∧ Bld N N vb acc wr ∧ Below N w wr ∧ N ≤ wr.heap.size
def TextEnd (B p : Nat) (s : ByteArray) (line : Int) (l : List Tk) (bad : Bool) (T : Option (List UInt8 × List UInt8)) (w : World) (e : Ending) (w' : World) : Prop :=
  e = .returned (.tuple #[]) ∧ Below B w w' ∧ (T = none → ScBad B p line w') ∧
    (∀ o r, T = some (o, r) → ∃ v', Sc B p (s.extract (s.size - r.length + 1) s.size) line v' (l ++ [⟨5, ⟨o.toArray⟩, 0, line⟩]) bad w')

theorem Bld.below {B b : Nat} {v : Value} {bs : List UInt8} {w w' : World} (h : Bld B b v bs w) (hb : Below w.heap.size w w') : Bld B b v bs w' := by
  obtain ⟨q, hq, hl⟩ := h.lies
  exact ⟨h.base, ⟨q, hq, (hb.block b h.lt).trans hl⟩, h.own.kept (row := none) ⟨hb.os, hb.tape, hb.output, hb.size, fun k hk _ => hb.block k hk⟩ (by cases hv : v.ownBlock; exact .inl rfl; exact .inr (by simp)), h.ne⟩
theorem own_belowN {B N size n : Nat} {e : TypeId} {v : Value} {xs : List Value} {w w' : World} (h : w.ownsRow B e size v n xs) (hv : ∀ k, v.ownBlock = some k → k < N) (hb : Below N w w') : w'.ownsRow B e size v n xs := by
  refine ⟨h.1, ?_⟩
  rcases h.2 with hn | ⟨g, cap, cur, rfl, hbg, hg, rest⟩
  · exact .inl hn
  · exact .inr ⟨g, cap, cur, rfl, hbg, (hb.block g (hv g rfl)).trans hg, rest⟩
theorem Sc.belowN {B p N : Nat} {s : ByteArray} {line : Int} {v : Value} {l : List Tk} {bad : Bool} {w w' : World} (h : Sc B p s line v l bad w) (hp : p < N) (hv : ∀ k, v.ownBlock = some k → k < N) (hb : Below N w w') : Sc B p s line v l bad w' :=
  ⟨h.base, (hb.block p hp).trans h.lies, own_belowN h.own hv hb, h.ne⟩
/-- The builder's text, and the scanner is as it was. -/
theorem text_str {B p N : Nat} {s : ByteArray} {line : Int} {v vb : Value} {l : List Tk} {bad : Bool} {acc : List UInt8} {wr : World} (hsc : Sc B p s line v l bad wr) (hbld : Bld N N vb acc wr) (hN : N ≤ wr.heap.size) (hpN : p < N) (hv : ∀ k, v.ownBlock = some k → k < N) (W : World) (hW : Below wr.heap.size wr W) :
    Calls Tryz.prog 201 #[.pointer (some ⟨N, 0, none⟩)] W fun e w' => e = .returned (.string ⟨acc.toArray⟩) ∧ Hid (Below N wr w') ∧ Hid (Sc B p s line v l bad w') ∧ w'.cell? ⟨p, 0, none⟩ = some (.string s) := by
  refine (string_any N N vb acc W (hbld.below hW) (Nat.le_trans hN hW.size)).mono ?_
  rintro e w' ⟨rfl, hb⟩
  have hb2 : Below N wr w' := (hW.mono hN).trans hb
  have hsc' := hsc.belowN hpN hv hb2
  exact ⟨rfl, hb2, hsc', by rw [Lib.cell_of_heap hsc'.lies]; rfl⟩
theorem Sc.drewN {B p : Nat} {s : ByteArray} {line : Int} {v : Value} {l : List Tk} {bad : Bool} {w : World} (h : Sc B p s line v l bad w) (n : Nat) : Sc B p s line v l bad (w.drewN n) := ⟨h.base, h.lies, h.own, h.ne⟩
theorem below_drewN {B : Nat} {w w' : World} (h : Below B w w') (n : Nat) : Below B w (w'.drewN n) := ⟨h.os, h.tape, h.output, h.size, h.block⟩
theorem text_bad {B p : Nat} {s : ByteArray} {line : Int} {v : Value} {l : List Tk} {bad : Bool} {T : Option (List UInt8 × List UInt8)} {w wr : World} (hT : T = none) (hsc : Sc B p s line v l bad wr) (hb : Below B w wr) :
    TextEnd B p s line l bad T w (.returned (.tuple #[])) (wr.setCell ⟨p, 3, none⟩ (.bool true)) :=
  ⟨rfl, hb.setCell (p := ⟨p, 3, none⟩) hsc.base _, fun _ => (hsc.setBad true).isBad, fun o r e => by rw [hT] at e; cases e⟩
theorem text_fin {B p N : Nat} {s t : ByteArray} {line : Int} {v4 : Value} {l : List Tk} {bad : Bool} {acc : List UInt8} {T : Option (List UInt8 × List UInt8)} {w wr w3 w4 : World} (hT : T = some (acc, t.data.toList)) (hb : Below B w wr) (hBN : B ≤ N) (h3 : Below N wr w3) (h4 : Below B w3 w4) (ht : t.size ≤ s.size) (ht1 : 0 < t.size)
    (hs : Sc B p (s.extract ((s.size : Int) - (t.size : Int) + 1).toNat s.size) line v4 (l ++ [⟨5, ⟨acc.toArray⟩, 0, line⟩]) bad w4) :
    TextEnd B p s line l bad T w (.returned (.tuple #[])) w4 := by
  refine ⟨rfl, hb.trans ((h3.mono hBN).trans h4), fun e => (by rw [hT] at e; cases e), fun o r e => ?_⟩
  rw [hT] at e
  cases e
  have hk : ((s.size : Int) - (t.size : Int) + 1).toNat = s.size - t.data.toList.length + 1 := by simp; omega
  rw [hk] at hs
  exact ⟨v4, hs⟩
theorem esc_cases (L : List UInt8) (h : L.head? = some 92) :
    ((Lib.hasPrefix L [92, 39] = true ∨ Lib.hasPrefix L [92, 39] = false ∧ Lib.hasPrefix L [92, 92] = true) ∧ 2 ≤ L.length ∧ esc L = some (L.getD 1 0, 2)) ∨
    (Lib.hasPrefix L [92, 39] = false ∧ Lib.hasPrefix L [92, 92] = false ∧ Lib.hasPrefix L [92, 110] = true ∧ 2 ≤ L.length ∧ esc L = some (10, 2)) ∨
    (Lib.hasPrefix L [92, 39] = false ∧ Lib.hasPrefix L [92, 92] = false ∧ Lib.hasPrefix L [92, 110] = false ∧ Lib.hasPrefix L [92, 120] = true ∧ ∃ a b r, L = 92 :: 120 :: a :: b :: r ∧ 4 ≤ L.length ∧ esc L = (escHex a b).map fun m => (UInt8.ofNat m, 4)) ∨
    (Lib.hasPrefix L [92, 39] = false ∧ Lib.hasPrefix L [92, 92] = false ∧ Lib.hasPrefix L [92, 110] = false ∧ (Lib.hasPrefix L [92, 120] = true → L.length < 4) ∧ esc L = none) := by
  rcases L with _ | ⟨c, r⟩
  · cases h
  · obtain rfl : c = 92 := by simpa using h
    rcases r with _ | ⟨d, r⟩
    · exact .inr (.inr (.inr ⟨rfl, rfl, rfl, by simp, rfl⟩))
    · by_cases h1 : d = 39
      · subst h1; exact .inl ⟨.inl (by simp [Lib.hasPrefix, List.isPrefixOf]), by simp, rfl⟩
      · by_cases h2 : d = 92
        · subst h2; exact .inl ⟨.inr ⟨by simp [Lib.hasPrefix, List.isPrefixOf], by simp [Lib.hasPrefix, List.isPrefixOf]⟩, by simp, rfl⟩
        · have g1 : Lib.hasPrefix (92 :: d :: r) [92, 39] = false := by simp [Lib.hasPrefix, List.isPrefixOf, Ne.symm h1]
          have g2 : Lib.hasPrefix (92 :: d :: r) [92, 92] = false := by simp [Lib.hasPrefix, List.isPrefixOf, Ne.symm h2]
          by_cases h3 : d = 110
          · subst h3; exact .inr (.inl ⟨g1, g2, by simp [Lib.hasPrefix, List.isPrefixOf], by simp, rfl⟩)
          · have g3 : Lib.hasPrefix (92 :: d :: r) [92, 110] = false := by simp [Lib.hasPrefix, List.isPrefixOf, Ne.symm h3]
            by_cases h4 : d = 120
            · subst h4
              rcases r with _ | ⟨a, _ | ⟨b, r⟩⟩
              · exact .inr (.inr (.inr ⟨g1, g2, g3, by simp, rfl⟩))
              · exact .inr (.inr (.inr ⟨g1, g2, g3, by simp, rfl⟩))
              · exact .inr (.inr (.inl ⟨g1, g2, g3, by simp [Lib.hasPrefix, List.isPrefixOf], a, b, r, rfl, by simp, rfl⟩))
            · have g4 : Lib.hasPrefix (92 :: d :: r) [92, 120] = false := by simp [Lib.hasPrefix, List.isPrefixOf, Ne.symm h4]
              refine .inr (.inr (.inr ⟨g1, g2, g3, by rw [g4]; simp, ?_⟩))
              unfold esc
              split
              all_goals simp_all
theorem text_pre (t p : ByteArray) (q : Bool) (h : Lib.hasPrefix t.data.toList p.data.toList = q) (w : World) : Calls Tryz.prog 114 #[.string t, .string p] w fun e w' => e = .returned (.bool q) ∧ w = w' := h ▸ hasPrefix_any t p w
theorem text_preq (t p : ByteArray) (q : Bool) (h : Lib.hasPrefix t.data.toList p.data.toList = q) (w : World) : Calls Tryz.prog 114 #[.string t, .string p] w fun e w' => e = .returned (.bool q) ∧ w' = w := (text_pre t p q h w).mono fun _ _ h => ⟨h.1, h.2.symm⟩
/-- ToLower while the scanner stays. -/
theorem text_low {B p : Nat} {s : ByteArray} {line : Int} {v : Value} {l : List Tk} {bad : Bool} {wr : World} (hsc : Sc B p s line v l bad wr) (hg : Glob wr) (u : ByteArray) (a b : UInt8) (hu : u.data.toList = [a, b]) (W : World) (hW : Below wr.heap.size wr W) :
    Calls Tryz.prog 207 #[.string u] W fun e w' => e = .returned (.string ⟨(Lib.toLowerD [a, b]).toArray⟩) ∧ Hid (Below wr.heap.size wr w') ∧ w'.cell? ⟨p, 3, none⟩ = some (.bool bad) ∧ w'.frozen? ⟨p, 3, none⟩ = false := by
  refine (toLower_any u (by have : u.data.toList.length = u.size := by simp
                            rw [hu] at this; simp at this; omega) W (hg.below hW)).mono ?_
  rintro e w' ⟨rfl, hb⟩
  have hb2 : Below wr.heap.size wr w' := hW.trans (hb.mono hW.size)
  have hs : Sc B p s line v l bad w' := hsc.below hb2
  exact ⟨by rw [hu], hb2, by rw [Lib.cell_of_heap hs.lies]; rfl, Lib.frozen_of_heap hs.lies 3⟩
theorem text_no {B p : Nat} {s : ByteArray} {line : Int} {v : Value} {l : List Tk} {bad : Bool} {wr : World} (hsc : Sc B p s line v l bad wr) (hg : Glob wr) (u : ByteArray) (a b : UInt8) (hu : u.data.toList = [a, b]) (hx : hexPair a b = none) (W : World) (hW : Below wr.heap.size wr W) :
    Calls Tryz.prog 205 #[.string u, .int .i64 16, .int .i64 8] W fun e w' => (∃ (z : Int) (t : TypeId) (q : Value), e = .returned (.tuple #[.int .u64 z, .iface t q])) ∧ Hid (Below wr.heap.size wr w') ∧ w'.cell? ⟨p, 3, none⟩ = some (.bool bad) ∧ w'.frozen? ⟨p, 3, none⟩ = false := by
  refine (parse16_no u a b hu hx W (hg.below hW)).mono ?_
  rintro e w' ⟨he, hb⟩
  have hb2 : Below wr.heap.size wr w' := hW.trans (hb.mono hW.size)
  have hs : Sc B p s line v l bad w' := hsc.below hb2
  exact ⟨he, hb2, by rw [Lib.cell_of_heap hs.lies]; rfl, Lib.frozen_of_heap hs.lies 3⟩
theorem text_ok {wr : World} (u : ByteArray) (a b : UInt8) (hu : u.data.toList = [a, b]) (m : Nat) (hx : hexPair a b = some m) (W : World) (hW : Below wr.heap.size wr W) :
    Calls Tryz.prog 205 #[.string u, .int .i64 16, .int .i64 8] W fun e w' => e = .returned (.tuple #[.int .u64 m, .nilIface]) ∧ Hid (Below wr.heap.size wr w') := by
  refine (parse16_ok u a b hu m hx W).mono ?_
  rintro e w' ⟨he, hb⟩
  exact ⟨he, hW.trans (hb.mono hW.size)⟩
theorem text_step {N f0 S n f1 : Nat} {T : Option (List UInt8 × List UInt8)} {w wr w2 : World} {t : ByteArray} {vb v2 : Value} {acc : List UInt8} {d : UInt8} (hte : textEnd f1 (acc ++ [d]) (t.data.toList.drop n) = T) (hn : 1 ≤ n) (hn2 : n ≤ t.size) (hb : Bld N N vb acc wr) (hb2 : Bld N N v2 (acc ++ [d]) w2) (fr : Fr N vb v2 wr w2) (hbel : Below N w wr) (hNw : N ≤ wr.heap.size)
    (hal : acc.length + t.size ≤ S) (hft : t.size < f1 + 1) : Hid (TextRel N f0 S T w (t.extract n t.size) w2) := by
  refine ⟨v2, acc ++ [d], f1, ?_, ?_, ?_, hb2, hbel.trans (fr.below hb), Nat.le_trans hNw fr.size⟩
  · rw [← hte]
    congr 1
    simp only [ByteArray.data_extract, Array.toList_extract, List.extract_eq_take_drop]
    exact List.take_of_length_le (by simp)
  · simp; omega
  · simp; omega
theorem text_bad2 {B p : Nat} {s : ByteArray} {line : Int} {v : Value} {l : List Tk} {bad : Bool} {T : Option (List UInt8 × List UInt8)} {w wr w4 : World} (hT : T = none) (hsc : Sc B p s line v l bad wr) (hb : Below B w wr) (hB : B ≤ wr.heap.size) (h4 : Below wr.heap.size wr w4) :
    TextEnd B p s line l bad T w (.returned (.tuple #[])) (w4.setCell ⟨p, 3, none⟩ (.bool true)) :=
  text_bad hT (hsc.below h4) (hb.trans (h4.mono hB))
theorem hexPair_lt {a b : UInt8} {m : Nat} (h : hexPair a b = some m) : m < 256 := by
  unfold hexPair at h
  split at h
  · rename_i x y hx hy
    have := hexv_lt hx
    have := hexv_lt hy
    cases h
    omega
  · cases h
theorem text_byte {N : Nat} {vb : Value} {acc : List UInt8} {wr : World} (hb : Bld N N vb acc wr) (hN : N ≤ wr.heap.size) (m : Nat) (hm : m < 256) (hl : acc.length + 1 ≤ 140737488355328) (W : World) (hW : Below wr.heap.size wr W) :
    Calls Tryz.prog 199 #[.pointer (some ⟨N, 0, none⟩), .int .u8 (m : Int)] W fun e w' => e = .returned .nilIface ∧ ∃ v', Bld N N v' (acc ++ [UInt8.ofNat m]) w' ∧ Fr N vb v' W w' := by
  have k := writeByte N N vb acc (UInt8.ofNat m) W (hb.below hW) hl (Nat.le_trans hN hW.size)
  have e : (UInt8.ofNat m).toNat = m := by rw [UInt8.toNat_ofNat']; omega
  rw [e] at k
  exact k
set_option maxHeartbeats 8000000 in
set_option maxRecDepth 100000 in
theorem text_any (B p : Nat) (s : ByteArray) (line : Int) (v : Value) (l : List Tk) (bad : Bool) (w : World) (h : Sc B p s line v l bad w) (hs : s.size ≤ 1000000) (hs1 : 1 ≤ s.size) (hlen : l.length ≤ 1000000) (hBw : B ≤ w.heap.size) (hg : Glob w)
    (f : Nat) (hf : s.size < f) :
    Calls Tryz.prog 123 #[.pointer (some ⟨p, 0, none⟩)] w (TextEnd B p s line l bad (textEnd f [] (s.data.toList.drop 1)) w) := by
  have hl : s.data.toList.length = s.size := by simp
  have c0 : w.cell? ⟨p, 0, none⟩ = some (.string s) := by rw [Lib.cell_of_heap h.lies]; rfl
  have hpw := h.lt
  generalize hT : textEnd f [] (s.data.toList.drop 1) = T
  have HT := Lib.hid hT
  have H := Lib.hid h
  have HG := Lib.hid hg
  have HF := Lib.hid hf
  have hm1 : (1 : Int) ≤ (s.size : Int) := by omega
  clear h hg hl hT hf
  go_enter Tryz.func123, Tryz.ntmps123
  go_wp2_with fail
  have hrel0 : Hid (TextRel w.heap.size f s.size T w (s.extract 1 s.size) (w.alloc (.cells #[.pointer none, .slice none 0 0] 353))) := by
    refine ⟨_, [], f, ?_, ?_, ?_, bld_new w, (Below.refl _ w).alloc (Nat.le_refl _) _, by simp⟩
    · rw [← HT.out]
      congr 1
      simp only [ByteArray.data_extract, Array.toList_extract, List.extract_eq_take_drop]
      exact List.take_of_length_le (by simp)
    · have := HF.out; simp; omega
    · simp
  generalize hN : w.heap.size = N at hrel0
  have hpN : p < N := by omega
  have hBN : B ≤ N := by omega
  have HV : Hid (∀ k, v.ownBlock = some k → k < N) := fun k hk => by rw [← hN]; exact (H.out.own.lt k hk).2
  have HN := Lib.hid hN
  clear hN hpw c0
  go_loopw [3] (fun sv wr => ∃ t : ByteArray, sv = .string t ∧ t.size ≤ s.size ∧ Hid (TextRel N f s.size T w t wr)) (fun sv _ => match sv with | .string t => t.size | _ => 0)
  case atStart => exact ⟨_, rfl, by simp, hrel0⟩
  case round =>
    obtain ⟨t, rfl, ht, hr⟩ := hrel
    obtain ⟨vb, acc, f', hte, hft, hal, hbld, hbel, hNw⟩ := hr.out
    have hsc : Sc B p s line v l bad wr := H.out.below (by rw [HN.out]; exact hbel)
    have k0 : wr.cell? ⟨p, 0, none⟩ = some (.string s) := by rw [Lib.cell_of_heap hsc.lies]; rfl
    have k3 : wr.cell? ⟨p, 3, none⟩ = some (.bool bad) := by rw [Lib.cell_of_heap hsc.lies]; rfl
    have f3 : wr.frozen? ⟨p, 3, none⟩ = false := Lib.frozen_of_heap hsc.lies 3
    have HSC := Lib.hid hsc
    have HBB : Hid (Below B w wr) := Lib.hid (hbel.mono (by omega))
    have HGW : Hid (Glob wr) := Lib.hid (HG.out.below (by rw [HN.out]; exact hbel))
    have HBLD := Lib.hid hbld
    have HBEL := Lib.hid hbel
    have HNW := Lib.hid hNw
    have HAL := Lib.hid hal
    have HFT := Lib.hid hft
    obtain ⟨f1, rfl⟩ : ∃ f1, f' = f1 + 1 := ⟨f' - 1, by omega⟩
    clear hsc hbld hbel hNw hr hal hft
    rcases hL : t.data.toList with _ | ⟨c, r⟩
    · have h1 : t.toList = [] := by rw [ByteArray.toList_eq]; exact hL
      have hTn : T = none := by rw [← hte, hL]; rfl
      have HTN := Lib.hid hTn
      clear hte hL hTn
      go_wp2
      go_end0
      exact text_bad HTN.out HSC.out HBB.out
    · have h1 : t.toList ≠ [] := by rw [ByteArray.toList_eq, hL]; simp
      have h2 : (!t.toList.isEmpty) = true := by simpa using h1
      have h3 : t.toList.isEmpty = false := by simpa using h1
      have hlen' : t.data.toList.length = t.size := by simp
      have hpos : 0 < t.size := by rw [hL] at hlen'; simp at hlen'; omega
      have hc : t[0] = c := by rw [byte_at]; simp [hL]
      have hc2 := c.toNat_lt
      by_cases h10 : c = 10
      · have n39 : ((t[0].toNat : Int) != 39) = true := by rw [hc, h10]; decide
        have n10 : ((t[0].toNat : Int) != 10) = false := by rw [hc, h10]; decide
        have e10 : ((t[0].toNat : Int) == 10) = true := by rw [hc, h10]; decide
        have hTn : T = none := by rw [← hte, hL]; simp [textEnd, h10]
        have HTN := Lib.hid hTn
        clear hte hL hTn hc h10 hlen'
        go_wp2
        go_end0
        exact text_bad HTN.out HSC.out HBB.out
      · by_cases h39 : c = 39
        · have n39 : ((t[0].toNat : Int) != 39) = false := by rw [hc, h39]; decide
          have e10 : ((t[0].toNat : Int) == 10) = false := by rw [hc, h39]; decide
          have hTs : T = some (acc, t.data.toList) := by rw [← hte, hL]; simp [textEnd, h39]
          have HTS := Lib.hid hTs
          clear hte hL hTs hc h10 h39 hlen'
          have STR := Lib.hid (text_str HSC.out HBLD.out HNW.out hpN HV.out)
          have hm2 : (t.size : Int) ≤ (s.size : Int) := by omega
          have hm3 : (0 : Int) ≤ (s.size : Int) - (t.size : Int) + 1 := by omega
          have hm4 : (s.size : Int) - (t.size : Int) + 1 ≤ (s.size : Int) := by omega
          have hm5 : s.size ≤ 140737488355328 := by omega
          have hBW : B ≤ wr.heap.size := Nat.le_trans hBN HNW.out
          have M3 := Lib.hid hm3
          have M4 := Lib.hid hm4
          have M5 := Lib.hid hm5
          have MB := Lib.hid hBW
          have hw1 : IntKind.i64.wrap ((s.size : Int) - (t.size : Int)) = (s.size : Int) - (t.size : Int) := by rw [IntKind.wrap_i64]; omega
          have hw2 : IntKind.i64.wrap ((s.size : Int) - (t.size : Int) + 1) = (s.size : Int) - (t.size : Int) + 1 := by rw [IntKind.wrap_i64]; omega
          clear hm3 hm4 hm5 hBW
          go_wp2_with fail
          go_region_with (first
            | (go_at_call 201; refine (STR.out _ ?_).mono ?_; (first | exact Below.refl _ _ | exact (Below.refl _ _).drew); rintro e w3 ⟨rfl, hb3, hs3, k30⟩)
            | (go_at_call 121; (with_reducible refine (put_any B p s line v l bad ⟨5, ⟨acc.toArray⟩, 0, 0⟩ ((s.size : Int) - (t.size : Int) + 1) _ hs3.out M3.out M4.out M5.out hlen (Nat.le_trans MB.out hb3.out.size)).mono ?_); rintro e w4 ⟨rfl, v4, h4, hb4⟩))
          all_goals clear hw1 hw2
          all_goals go_end0
          all_goals exact text_fin HTS.out HBB.out hBN hb3.out hb4 (ht := ht) (ht1 := hpos) h4
        · have n39 : ((t[0].toNat : Int) != 39) = true := by
            rw [hc]; have : c.toNat ≠ 39 := fun e => h39 (UInt8.toNat_inj.1 (by rw [e]; decide))
            simp; omega
          have n10 : ((t[0].toNat : Int) != 10) = true := by
            rw [hc]; have : c.toNat ≠ 10 := fun e => h10 (UInt8.toNat_inj.1 (by rw [e]; decide))
            simp; omega
          have e10 : ((t[0].toNat : Int) == 10) = false := by simpa using n10
          by_cases h92 : c = 92
          · have n92 : ((t[0].toNat : Int) != 92) = false := by rw [hc, h92]; decide
            have hte2 : (match esc t.data.toList with | none => none | some (d, n) => textEnd f1 (acc ++ [d]) (t.data.toList.drop n)) = T := by rw [← hte, hL]; simp [textEnd, h39, h10, h92]; rcases esc (92 :: r) with _ | ⟨d, n⟩ <;> rfl
            have hHd : t.data.toList.head? = some 92 := by rw [hL, h92]; rfl
            have HTE := Lib.hid hte2
            have HSZ := Lib.hid hlen'
            have hcases := esc_cases _ hHd
            clear hte hL hc h10 h39 h92 hlen' hte2 hHd
            rcases hcases with ⟨q1, q2, q3⟩ | ⟨q1, q2, q3, q4, q5⟩ | ⟨q1, q2, q3, q4, a, b, r2, qL, q5, q6⟩ | ⟨q1, q2, q3, q4, q5⟩
            · have hsz2 : 2 ≤ t.size := by rw [← HSZ.out]; exact q2
              have hd : t.data.toList.getD 1 0 = t[1] := by rw [byte_at]; simp [List.getD_eq_getElem?_getD, List.getElem?_eq_getElem (show 1 < t.data.toList.length by omega)]
              have hTs : textEnd f1 (acc ++ [t[1]]) (t.data.toList.drop 2) = T := by rw [← HTE.out, q3, hd]
              have HTS := Lib.hid hTs
              have WB := Lib.hid (writeByte N N vb acc t[1] wr HBLD.out (by have := HAL.out; omega) HNW.out)
              have hm2 : (2 : Int) ≤ (t.size : Int) := by omega
              clear q2 q3 hd hTs
              rcases q1 with q1 | ⟨q1, q2⟩
              · have P1 := Lib.hid (text_pre t ⟨#[92, 39]⟩ true q1)
                clear q1
                go_wp2_with (first
                  | (go_at_call 114; refine (P1.out _).mono ?_; rintro e w' ⟨rfl, rfl⟩)
                  | (go_at_call 199; refine WB.out.mono ?_; rintro e w2 ⟨rfl, v2, hb2, fr2⟩))
                all_goals
                  go_round
                  case rel => exact ⟨t.extract 2 t.size, rfl, by simp; omega, text_step (d := t[1]) (n := 2) HTS.out (by omega) (by omega) HBLD.out hb2 fr2 HBEL.out HNW.out HAL.out HFT.out⟩
                  case measure => simp; omega
              · have P1 := Lib.hid (text_pre t ⟨#[92, 39]⟩ false q1)
                have P2 := Lib.hid (text_pre t ⟨#[92, 92]⟩ true q2)
                clear q1 q2
                go_wp2_with (first
                  | (go_at_call 114; (with_reducible first | refine (P1.out _).mono ?_ | refine (P2.out _).mono ?_); rintro e w' ⟨rfl, rfl⟩)
                  | (go_at_call 199; refine WB.out.mono ?_; rintro e w2 ⟨rfl, v2, hb2, fr2⟩))
                all_goals
                  go_round
                  case rel => exact ⟨t.extract 2 t.size, rfl, by simp; omega, text_step (d := t[1]) (n := 2) HTS.out (by omega) (by omega) HBLD.out hb2 fr2 HBEL.out HNW.out HAL.out HFT.out⟩
                  case measure => simp; omega
            · have hsz2 : 2 ≤ t.size := by rw [← HSZ.out]; exact q4
              have hTs : textEnd f1 (acc ++ [10]) (t.data.toList.drop 2) = T := by rw [← HTE.out, q5]
              have HTS := Lib.hid hTs
              have wb := writeByte N N vb acc 10 wr HBLD.out (by have := HAL.out; omega) HNW.out
              rw [show (((10 : UInt8).toNat : Nat) : Int) = 10 from rfl] at wb
              have WB := Lib.hid wb
              have hm2 : (2 : Int) ≤ (t.size : Int) := by omega
              have P1 := Lib.hid (text_pre t ⟨#[92, 39]⟩ false q1)
              have P2 := Lib.hid (text_pre t ⟨#[92, 92]⟩ false q2)
              have P3 := Lib.hid (text_pre t ⟨#[92, 110]⟩ true q3)
              clear q1 q2 q3 q4 q5 hTs wb
              go_wp2_with (first
                | (go_at_call 114; (with_reducible first | refine (P1.out _).mono ?_ | refine (P2.out _).mono ?_ | refine (P3.out _).mono ?_); rintro e w' ⟨rfl, rfl⟩)
                | (go_at_call 199; refine WB.out.mono ?_; rintro e w2 ⟨rfl, v2, hb2, fr2⟩))
              all_goals
                go_round
                case rel => exact ⟨t.extract 2 t.size, rfl, by simp; omega, text_step (d := 10) (n := 2) HTS.out (by omega) (by omega) HBLD.out hb2 fr2 HBEL.out HNW.out HAL.out HFT.out⟩
                case measure => simp; omega
            · have hsz4 : 4 ≤ t.size := by rw [← HSZ.out]; exact q5
              have hm4 : (4 : Int) ≤ (t.size : Int) := by omega
              have hu : (t.extract 2 4).data.toList = [a, b] := by
                simp only [ByteArray.data_extract, Array.toList_extract, List.extract_eq_take_drop, qL]
                rfl
              have P1 := Lib.hid (text_pre t ⟨#[92, 39]⟩ false q1)
              have P2 := Lib.hid (text_pre t ⟨#[92, 92]⟩ false q2)
              have P3 := Lib.hid (text_pre t ⟨#[92, 110]⟩ false q3)
              have P4 := Lib.hid (text_pre t ⟨#[92, 120]⟩ true q4)
              have TL := Lib.hid (text_low HSC.out HGW.out (t.extract 2 4) a b hu)
              have HU := Lib.hid hu
              have Q6 := Lib.hid q6
              clear q1 q2 q3 q4 q5 q6 qL hu
              by_cases hlow : Lib.toLowerD [a, b] = [a, b]
              · have he : (⟨(Lib.toLowerD [a, b]).toArray⟩ : ByteArray) = t.extract 2 4 := by
                  rw [hlow, ← HU.out]
                rw [he] at TL
                have HLOW := Lib.hid hlow
                clear hlow he
                rcases hx : hexPair a b with _ | m
                · have hTn : T = none := by rw [← HTE.out, Q6.out]; simp [escHex, HLOW.out, hx]
                  have HTN := Lib.hid hTn
                  have NO := Lib.hid (text_no HSC.out HGW.out (t.extract 2 4) a b HU.out hx)
                  clear hx hTn
                  go_wp2_with (go_at_call 114; (with_reducible first | refine (P1.out _).mono ?_ | refine (P2.out _).mono ?_ | refine (P3.out _).mono ?_); rintro e w' ⟨rfl, rfl⟩)
                  go_region_held3 (fun _ => True) (first | go_keep | trivial)
                    (first
                    | (go_at_call 114; (with_reducible refine (P4.out _).mono ?_); rintro e w' ⟨rfl, rfl⟩)
                    | (go_at_call 207; refine (TL.out _ ?_).mono ?_; (first | exact Below.refl _ _ | exact (Below.refl _ _).drew); rintro e w3 ⟨rfl, hb3, k33, f33⟩))
                  go_wp2_with (go_at_call 205; refine (NO.out _ hb3.out).mono ?_; rintro e w4 ⟨⟨z, ty, q, rfl⟩, hb4, k34, f34⟩)
                  go_end0
                  exact text_bad2 HTN.out HSC.out HBB.out (Nat.le_trans hBN HNW.out) hb4.out
                · have hm := hexPair_lt hx
                  have hTs : textEnd f1 (acc ++ [UInt8.ofNat m]) (t.data.toList.drop 4) = T := by rw [← HTE.out, Q6.out]; simp [escHex, HLOW.out, hx]
                  have HTS := Lib.hid hTs
                  have OK := Lib.hid (text_ok (wr := wr) (t.extract 2 4) a b HU.out m hx)
                  have WB := Lib.hid (text_byte HBLD.out HNW.out m hm (by have := HAL.out; omega))
                  have hw : IntKind.u8.wrap (m : Int) = m := by rw [IntKind.wrap_u8]; omega
                  clear hx hTs
                  go_wp2_with (go_at_call 114; (with_reducible first | refine (P1.out _).mono ?_ | refine (P2.out _).mono ?_ | refine (P3.out _).mono ?_); rintro e w' ⟨rfl, rfl⟩)
                  go_region_held3 (fun _ => True) (first | go_keep | trivial)
                    (first
                    | (go_at_call 114; (with_reducible refine (P4.out _).mono ?_); rintro e w' ⟨rfl, rfl⟩)
                    | (go_at_call 207; refine (TL.out _ ?_).mono ?_; (first | exact Below.refl _ _ | exact (Below.refl _ _).drew); rintro e w3 ⟨rfl, hb3, k33, f33⟩))
                  go_wp2_with (first
                    | (go_at_call 205; refine (OK.out _ hb3.out).mono ?_; rintro e w4 ⟨rfl, hb4⟩)
                    | (go_at_call 199; refine (WB.out _ hb4.out).mono ?_; rintro e w5 ⟨rfl, v2, hb5, fr5⟩))
                  all_goals
                    clear hw
                    go_round
                    case rel => exact ⟨t.extract 4 t.size, rfl, by simp; omega, text_step (d := UInt8.ofNat m) (n := 4) HTS.out (by omega) (by omega) (HBLD.out.below hb4.out) hb5 fr5 (HBEL.out.trans (hb4.out.mono HNW.out)) (Nat.le_trans HNW.out hb4.out.size) HAL.out HFT.out⟩
                    case measure => simp; omega
              · have hTn : T = none := by rw [← HTE.out, Q6.out]; simp [escHex, hlow]
                have HTN := Lib.hid hTn
                have hlw : (Lib.toLowerD [a, b] == (t.extract 2 4).toList) = false := by
                  rw [ByteArray.toList_eq, HU.out]; simpa using hlow
                generalize Lib.toLowerD [a, b] = lw at TL hlw
                clear hlow hTn
                go_wp2_with (go_at_call 114; (with_reducible first | refine (P1.out _).mono ?_ | refine (P2.out _).mono ?_ | refine (P3.out _).mono ?_); rintro e w' ⟨rfl, rfl⟩)
                go_region_held3 (fun _ => True) (first | go_keep | trivial)
                    (first
                    | (go_at_call 114; (with_reducible refine (P4.out _).mono ?_); rintro e w' ⟨rfl, rfl⟩)
                    | (go_at_call 207; refine (TL.out _ ?_).mono ?_; (first | exact Below.refl _ _ | exact (Below.refl _ _).drew); rintro e w3 ⟨rfl, hb3, k33, f33⟩))
                go_wp2_with fail
                go_end0
                exact text_bad2 HTN.out HSC.out HBB.out (Nat.le_trans hBN HNW.out) hb3.out
            · have hTn : T = none := by rw [← HTE.out, q5]
              have HTN := Lib.hid hTn
              have P1 := Lib.hid (text_pre t ⟨#[92, 39]⟩ false q1)
              have P2 := Lib.hid (text_pre t ⟨#[92, 92]⟩ false q2)
              have P3 := Lib.hid (text_pre t ⟨#[92, 110]⟩ false q3)
              have hsz : t.data.toList.length = t.size := by simp
              rcases hq : Lib.hasPrefix t.data.toList [92, 120] with _ | _
              · have P4 := Lib.hid (text_preq t ⟨#[92, 120]⟩ false hq)
                clear q1 q2 q3 q4 q5 hq hsz hTn
                go_wp2_with (go_at_call 114; (with_reducible first | refine (P1.out _).mono ?_ | refine (P2.out _).mono ?_ | refine (P3.out _).mono ?_); rintro e w' ⟨rfl, rfl⟩)
                go_big_quiet (first | (go_at_call 114; refine Calls.quiet_of_same (P4.out _)))
                go_wp2_with fail
                go_end0
                exact text_bad HTN.out (HSC.out.drewN _) (below_drewN HBB.out _)
              · have P4 := Lib.hid (text_preq t ⟨#[92, 120]⟩ true hq)
                have hm4 : (t.size : Int) < 4 := by have := q4 hq; omega
                have hd4 : decide ((t.size : Int) ≥ 4) = false := decide_eq_false (by omega)
                clear q1 q2 q3 q4 q5 hq hsz hTn
                go_wp2_with (go_at_call 114; (with_reducible first | refine (P1.out _).mono ?_ | refine (P2.out _).mono ?_ | refine (P3.out _).mono ?_); rintro e w' ⟨rfl, rfl⟩)
                go_big_quiet (first | (go_at_call 114; refine Calls.quiet_of_same (P4.out _)))
                go_wp2_with fail
                go_end0
                exact text_bad HTN.out (HSC.out.drewN _) (below_drewN HBB.out _)
          · have n92 : ((t[0].toNat : Int) != 92) = true := by
              rw [hc]; have : c.toNat ≠ 92 := fun e => h92 (UInt8.toNat_inj.1 (by rw [e]; decide))
              simp; omega
            have hTs : textEnd f1 (acc ++ [t[0]]) (t.data.toList.drop 1) = T := by rw [← hte, hL, hc]; simp [textEnd, h39, h10, h92]
            have HTS := Lib.hid hTs
            have WB := Lib.hid (writeByte N N vb acc t[0] wr HBLD.out (by have := HAL.out; omega) HNW.out)
            have hm2 : (1 : Int) ≤ (t.size : Int) := by omega
            clear hte hL hTs hc h10 h39 h92 hlen'
            go_wp2_with (go_at_call 199; refine WB.out.mono ?_; rintro e w2 ⟨rfl, v2, hb2, fr2⟩)
            all_goals
              go_round
              case rel => exact ⟨t.extract 1 t.size, rfl, by simp; omega, text_step (d := t[0]) (n := 1) HTS.out (by omega) (by omega) HBLD.out hb2 fr2 HBEL.out HNW.out HAL.out HFT.out⟩
              case measure => simp; omega
end Go.Proofs.YtneekcggbnodnaaGreatDoor
