/- The walk of LexLines: it answers true. -/
import Derived.Test.YtneekcggbnodnaaDoorLexFeeds
namespace Go.Proofs.YtneekcggbnodnaaDoor
open Go Go.RowKit Go.Lib
set_option linter.unusedSimpArgs false
set_option linter.unusedVariables false

theorem feeds_quiet (s : ByteArray) (hs : s.size ≤ 9223372036854775807) (F : Nat) (hF : feeds s.data.toList = F) (w : World) : Calls Tryd.prog 16 #[.string s] w fun e w' => e = .returned (.int .i64 (F : Int)) ∧ w' = w := by
  subst hF
  exact (feeds_any s hs w).mono fun _ _ h => ⟨h.1, h.2.symm⟩
/-- What a token's kind says of its text and its number, as the round asks it. -/
def KindOk (t : Tk) : Prop :=
  (t.k = 1 ∨ t.k = 3) ∧ nameB t.s.data.toList = true ∧ t.n = 0 ∨ t.k = 2 ∧ wordB t.s.data.toList = true ∧ t.n = 0 ∨ t.k = 4 ∨ (t.k = 5 ∨ t.k = 6) ∧ t.n = 0
theorem kind_ok {t : Tk} (h : Good t.k t.s.data.toList t.n) : KindOk t := by
  rcases h with ⟨h, a, b⟩ | ⟨h, a, b⟩ | ⟨h, a, b⟩ | ⟨h, _⟩ | ⟨h, b⟩ | ⟨h, _, b⟩
  · exact .inl ⟨.inl h, a, b⟩
  · exact .inr (.inl ⟨h, a, b⟩)
  · exact .inl ⟨.inr h, a, b⟩
  · exact .inr (.inr (.inl h))
  · exact .inr (.inr (.inr ⟨.inl h, b⟩))
  · exact .inr (.inr (.inr ⟨.inr h, b⟩))
/-- What the statement asks of the tokens. -/
structure LinesOk (l : List Tk) (n F : Nat) : Prop where
  len : l.length ≤ n
  line : ∀ i (h : i < l.length), 0 ≤ l[i].line ∧ l[i].line ≤ F
  mono : ∀ i (h : i < l.length), 0 < i → (l[i - 1]'(by omega)).line ≤ l[i].line
  kind : ∀ i (h : i < l.length), KindOk l[i]
  small : ∀ i (h : i < l.length), l[i].s.size ≤ 140737488355328
theorem spell_ge (k : Int) (t : List UInt8) : t.length ≤ (spell k t).length := by
  unfold spell
  split
  · simp
  · split
    · have : ∀ l : List UInt8, l.length ≤ (l.flatMap quote1).length := by
        intro l
        induction l with
        | nil => simp
        | cons c r ih => rw [List.flatMap_cons, List.length_append, List.length_cons]; have := (quote1_len c).1; omega
      have := this t
      simp only [quoteL, List.length_cons, List.length_append, List.length_nil]
      omega
    · exact Nat.le_refl _
theorem tok_small : ∀ (f : Nat) (L : List UInt8) (line : Int), L.length ≤ f → ∀ l, lexF f L line = .inr l → ∀ t ∈ l, t.s.size ≤ 8 * L.length := by
  intro f
  induction f with
  | zero => intro L line _ l h t ht; simp [lexF] at h; subst h; simp at ht
  | succ f ih =>
    intro L line hl l h t ht
    rw [lexF] at h
    by_cases hL : L = []
    · rw [if_pos hL] at h; cases h; simp at ht
    · rw [if_neg hL] at h
      have ok := step_ok L
      rcases hs : step L with _ | ⟨n, d⟩ | ⟨k, u, x, n⟩
      · rw [hs] at h; cases h
      · rw [hs] at h ok
        obtain ⟨o1, o2, _⟩ := ok
        have := ih _ _ (drop_len o1 o2 hl) l h t ht
        rw [List.length_drop] at this
        omega
      · rw [hs] at h ok
        obtain ⟨o1, o2, _, _, o5⟩ := ok
        simp only [] at h
        rcases hr : lexF f (L.drop n) line with e | m
        · rw [hr] at h; cases h
        · rw [hr] at h
          cases h
          rcases List.mem_cons.1 ht with rfl | ht
          · show (⟨u.toArray⟩ : ByteArray).size ≤ _
            have hs2 := spell_ge k u
            have : (⟨u.toArray⟩ : ByteArray).size = u.length := by simp [ByteArray.size]
            rw [this]
            omega
          · have := ih _ _ (drop_len o1 o2 hl) m hr t ht
            rw [List.length_drop] at this
            omega
theorem lines_ok {L : List UInt8} {l : List Tk} (h : lexL L = .inr l) (hL : L.length ≤ 1000000) : LinesOk l L.length (feeds L) := by
  have hf := lexF_facts L.length L 0 (Nat.le_refl _)
  have hsm := tok_small L.length L 0 (Nat.le_refl _) l h
  rw [show lexF L.length L 0 = .inr l from h] at hf
  obtain ⟨h1, h2, h3⟩ := hf
  refine ⟨h2, fun i hi => ?_, fun i hi h0 => ?_, fun i hi => ?_, fun i hi => by have := hsm _ (List.getElem_mem hi); omega⟩
  · have := h3 _ (List.getElem_mem hi)
    exact ⟨this.1, by have := this.2.1; omega⟩
  · exact List.pairwise_iff_getElem.1 h1 (i - 1) i (by omega) hi (by omega)
  · exact kind_ok (h3 _ (List.getElem_mem hi)).2.2
set_option maxHeartbeats 8000000 in
set_option maxRecDepth 100000 in
theorem lines_good (s : ByteArray) (hs : s.size ≤ 65536) (l : List Tk) (w : World) (hg : Glob w) (hl : lexL s.data.toList = .inr l) : Calls Tryd.prog 7 #[.string s] w fun e w' => e = .returned (.bool true) ∧ Below w.heap.size w w' := by
  have hlo := lines_ok hl (by rw [size_of]; omega)
  have ht := tokens_any s (by omega) w hg
  have hfl := feeds_le s.data.toList
  rw [size_of] at hfl
  generalize hF : feeds s.data.toList = F at hlo hfl
  have HF := Lib.hid hF
  have HT := Lib.hid ht
  have HL := Lib.hid hl
  have HLO := Lib.hid hlo
  have HG := Lib.hid hg
  have hlen := hlo.len
  rw [size_of] at hlen
  clear ht hl hlo hg hF
  go_enter Tryd.func7, Tryd.ntmps7
  go_wp2_with fail
  refine HT.out.mono ?_
  rintro e w1 ⟨hb1, h1⟩
  rw [if_neg (by omega), HL.out] at h1
  obtain ⟨v, rfl, hown⟩ := h1
  obtain ⟨a, c, rfl⟩ := Toks.form hown
  have HB1 := Lib.hid hb1
  have HO := Lib.hid hown
  clear hb1 hown
  go_wp2_with fail
  go_loopw [6] (fun i wr => ∃ k : Nat, k ≤ l.length ∧ i = .int .i64 k ∧ Hid (∃ n, wr = w1.drewN n)) (fun i _ => l.length - (intOf i).toNat)
  case atStart => exact ⟨0, Nat.zero_le _, rfl, 0, rfl⟩
  case round =>
    obtain ⟨k, hk, rfl, hd⟩ := hrel
    have hbw : Hid (Below w.heap.size w wr) := by
      obtain ⟨n, hn⟩ := hd.out
      rw [hn]
      exact below_drewN HB1.out n
    have hto : Hid (Toks w.heap.size wr (.slice a l.length c) l) := by
      obtain ⟨n, hn⟩ := hd.out
      rw [hn]
      exact HO.out
    have hgw := Lib.hid (HG.out.below hbw.out)
    by_cases hlt : k < l.length
    · obtain ⟨g, c', hv, _, _, hc⟩ := Toks.cells (l := l) hto.out (by omega)
      injection hv with q1 q2 q3
      subst q1
      subst q3
      obtain ⟨b0, b1, b2, b3⟩ := hc k hlt
      obtain ⟨ln0, ln1⟩ := HLO.out.line k hlt
      have hkind := HLO.out.kind k hlt
      have hsmall := HLO.out.small k hlt
      have m1 : (0 : Int) ≤ (k : Int) := by omega
      have m2 : (k : Int) < (l.length : Int) := by omega
      have d1 : decide (l[k].line < 0) = false := decide_eq_false (by omega)
      have d2 : decide (l[k].line > (F : Int)) = false := decide_eq_false (by omega)
      have WD := word_any l[k].s hsmall
      have NM := name_any l[k].s hsmall
      have HQ := Lib.hid q2
      have HK := Lib.hid hkind
      have FQ := Lib.hid (feeds_quiet s (by omega) F HF.out)
      obtain ⟨r0, r1⟩ : ∃ lk : Tk, lk = l[k] := ⟨_, rfl⟩
      rw [← r1] at b0 b1 b2 b3 ln0 ln1 d1 d2 WD NM HK
      have HWD := Lib.hid WD
      have HNM := Lib.hid NM
      have HR1 := Lib.hid r1
      clear q2 hkind hsmall WD NM
      have hcase : (k = 0 ∧ decide ((k : Int) > 0) = false) ∨ ∃ lp : Tk, TokCells wr g (k - 1) lp ∧ lp.line ≤ r0.line ∧ 0 < k := by
        by_cases hk0 : 0 < k
        · exact .inr ⟨l[k - 1], hc (k - 1) (by omega), by rw [r1]; exact HLO.out.mono k hlt hk0, hk0⟩
        · exact .inl ⟨by omega, decide_eq_false (by omega)⟩
      have HCASE := Lib.hid hcase
      clear r1 hc hcase
      rcases HCASE.out with ⟨hk0, d0⟩ | ⟨lp, ⟨p0, p1, p2, p3⟩, hmono, hk0⟩
      · have z0 : (k : Int) ≤ 0 := by omega
        have d4 : decide (0 < k) = false := decide_eq_false (by omega)
        have d5 : ¬ 0 < k := by omega
        clear hk0
        go_wp2_with fail
        go_quiet ((go_at_call 16; exact Calls.quiet_of_same (FQ.out _)))
        have HGQ := Lib.hid (hgw.out.below (below_drewN (Below.refl _ _) nq))
        clear d0 d4 d5 z0 d1 d2
        rcases HK.out with ⟨hk1 | hk1, hn, hx⟩ | ⟨hk1, hn, hx⟩ | hk1 | ⟨hk1 | hk1, hx⟩
        · rw [hk1] at b0
          rw [hx] at b2
          have NM := HNM.out
          rw [hn] at NM
          have HN := Lib.hid NM
          clear NM hn
          clear hk1 hx
          go_wp2_with (go_at_call 10; refine (HN.out _ HGQ.out).mono ?_; rintro e w' ⟨rfl, rfl⟩)
          go_roundw
          case rel => exact ⟨k + 1, by omega, by go_num, by obtain ⟨n, hn⟩ := hd.out; exact ⟨n + nq, by rw [hn, World.drewN_drewN]⟩⟩
          case measure => simp [intOf]; omega
        · rw [hk1] at b0
          rw [hx] at b2
          have NM := HNM.out
          rw [hn] at NM
          have HN := Lib.hid NM
          clear NM hn
          clear hk1 hx
          go_wp2_with (go_at_call 10; refine (HN.out _ HGQ.out).mono ?_; rintro e w' ⟨rfl, rfl⟩)
          go_roundw
          case rel => exact ⟨k + 1, by omega, by go_num, by obtain ⟨n, hn⟩ := hd.out; exact ⟨n + nq, by rw [hn, World.drewN_drewN]⟩⟩
          case measure => simp [intOf]; omega
        · rw [hk1] at b0
          rw [hx] at b2
          have NM := HWD.out
          rw [hn] at NM
          have HN := Lib.hid NM
          clear NM hn
          clear hk1 hx
          go_wp2_with (go_at_call 8; refine (HN.out _ HGQ.out).mono ?_; rintro e w' ⟨rfl, rfl⟩)
          go_roundw
          case rel => exact ⟨k + 1, by omega, by go_num, by obtain ⟨n, hn⟩ := hd.out; exact ⟨n + nq, by rw [hn, World.drewN_drewN]⟩⟩
          case measure => simp [intOf]; omega
        · rw [hk1] at b0
          clear hk1
          go_wp2_with fail
          go_roundw
          case rel => exact ⟨k + 1, by omega, by go_num, by obtain ⟨n, hn⟩ := hd.out; exact ⟨n + nq, by rw [hn, World.drewN_drewN]⟩⟩
          case measure => simp [intOf]; omega
        · rw [hk1] at b0
          rw [hx] at b2
          clear hk1 hx
          go_wp2_with fail
          go_roundw
          case rel => exact ⟨k + 1, by omega, by go_num, by obtain ⟨n, hn⟩ := hd.out; exact ⟨n + nq, by rw [hn, World.drewN_drewN]⟩⟩
          case measure => simp [intOf]; omega
        · rw [hk1] at b0
          rw [hx] at b2
          clear hk1 hx
          go_wp2_with fail
          go_roundw
          case rel => exact ⟨k + 1, by omega, by go_num, by obtain ⟨n, hn⟩ := hd.out; exact ⟨n + nq, by rw [hn, World.drewN_drewN]⟩⟩
          case measure => simp [intOf]; omega
      · have d0 : decide ((k : Int) > 0) = true := decide_eq_true (by omega)
        have d3 : decide (r0.line < lp.line) = false := decide_eq_false (by omega)
        have e1 : IntKind.i64.wrap ((k : Int) - 1) = (k : Int) - 1 := by rw [IntKind.wrap_i64]; omega
        have e2 : (0 : Int) ≤ (k : Int) - 1 := by omega
        have e3 : ((k : Int) - 1).toNat = k - 1 := by omega
        have e4 : (k : Int) - 1 < (l.length : Int) := by omega
        go_wp2_with fail
        go_quiet ((go_at_call 16; exact Calls.quiet_of_same (FQ.out _)))
        have HGQ := Lib.hid (hgw.out.below (below_drewN (Below.refl _ _) nq))
        clear d0 d3 e1 e2 e3 e4 d1 d2 p0 p1 p2 p3
        rcases HK.out with ⟨hk1 | hk1, hn, hx⟩ | ⟨hk1, hn, hx⟩ | hk1 | ⟨hk1 | hk1, hx⟩
        · rw [hk1] at b0
          rw [hx] at b2
          have NM := HNM.out
          rw [hn] at NM
          have HN := Lib.hid NM
          clear NM hn
          clear hk1 hx
          go_wp2_with (go_at_call 10; refine (HN.out _ HGQ.out).mono ?_; rintro e w' ⟨rfl, rfl⟩)
          go_roundw
          case rel => exact ⟨k + 1, by omega, by go_num, by obtain ⟨n, hn⟩ := hd.out; exact ⟨n + nq, by rw [hn, World.drewN_drewN]⟩⟩
          case measure => simp [intOf]; omega
        · rw [hk1] at b0
          rw [hx] at b2
          have NM := HNM.out
          rw [hn] at NM
          have HN := Lib.hid NM
          clear NM hn
          clear hk1 hx
          go_wp2_with (go_at_call 10; refine (HN.out _ HGQ.out).mono ?_; rintro e w' ⟨rfl, rfl⟩)
          go_roundw
          case rel => exact ⟨k + 1, by omega, by go_num, by obtain ⟨n, hn⟩ := hd.out; exact ⟨n + nq, by rw [hn, World.drewN_drewN]⟩⟩
          case measure => simp [intOf]; omega
        · rw [hk1] at b0
          rw [hx] at b2
          have NM := HWD.out
          rw [hn] at NM
          have HN := Lib.hid NM
          clear NM hn
          clear hk1 hx
          go_wp2_with (go_at_call 8; refine (HN.out _ HGQ.out).mono ?_; rintro e w' ⟨rfl, rfl⟩)
          go_roundw
          case rel => exact ⟨k + 1, by omega, by go_num, by obtain ⟨n, hn⟩ := hd.out; exact ⟨n + nq, by rw [hn, World.drewN_drewN]⟩⟩
          case measure => simp [intOf]; omega
        · rw [hk1] at b0
          clear hk1
          go_wp2_with fail
          go_roundw
          case rel => exact ⟨k + 1, by omega, by go_num, by obtain ⟨n, hn⟩ := hd.out; exact ⟨n + nq, by rw [hn, World.drewN_drewN]⟩⟩
          case measure => simp [intOf]; omega
        · rw [hk1] at b0
          rw [hx] at b2
          clear hk1 hx
          go_wp2_with fail
          go_roundw
          case rel => exact ⟨k + 1, by omega, by go_num, by obtain ⟨n, hn⟩ := hd.out; exact ⟨n + nq, by rw [hn, World.drewN_drewN]⟩⟩
          case measure => simp [intOf]; omega
        · rw [hk1] at b0
          rw [hx] at b2
          clear hk1 hx
          go_wp2_with fail
          go_roundw
          case rel => exact ⟨k + 1, by omega, by go_num, by obtain ⟨n, hn⟩ := hd.out; exact ⟨n + nq, by rw [hn, World.drewN_drewN]⟩⟩
          case measure => simp [intOf]; omega
    · have hB2 := hbw
      go_wp2_with fail
      refine (alive_any _ hgw.out).mono ?_
      rintro e w5 ⟨rfl, hb5⟩
      go_wp2_with fail
      go_ret
      exact ⟨rfl, Below.step hB2.out hb5⟩
/-- Where the text is none. -/
theorem lines_none (s : ByteArray) (hs : s.size ≤ 140737488355328) (w : World) (hg : Glob w) (ln F : Nat) (er : Int) (he : er ≠ 0) (hlf : ln ≤ F) (hF : feeds s.data.toList = F)
    (ht : Calls Tryd.prog 15 #[.string s] w fun e w' => e = .returned (.tuple #[.slice none 0 0, .int .i64 ln, .int .i64 er]) ∧ Below w.heap.size w w') :
    Calls Tryd.prog 7 #[.string s] w fun e w' => e = .returned (.bool true) ∧ Below w.heap.size w w' := by
  have e1 : (er != 0) = true := by simpa using he
  have m1 : (0 : Int) ≤ (ln : Int) := by omega
  have m2 : (ln : Int) ≤ (F : Int) := by omega
  have FQ := Lib.hid (feeds_quiet s (by omega) F hF)
  have HT := Lib.hid ht
  have HG := Lib.hid hg
  clear hF ht hg hlf he
  go_enter Tryd.func7, Tryd.ntmps7
  go_wp2_with fail
  refine HT.out.mono ?_
  rintro e w1 ⟨rfl, hb1⟩
  have HG1 := Lib.hid (HG.out.below hb1)
  have HB1 := Lib.hid hb1
  clear hb1
  go_wp2_with (first
    | (go_at_call 16; refine (FQ.out _).mono ?_; rintro e w2 ⟨rfl, rfl⟩)
    | (go_at_call 12; refine (alive_any _ HG1.out).mono ?_; rintro e w5 ⟨rfl, hb5⟩))
  go_ret
  exact ⟨rfl, Below.step HB1.out hb5⟩
theorem lexLines_walk (s : ByteArray) (hs : s.size ≤ 140737488355328) (w : World) (hg : Glob w) : Calls Tryd.prog 7 #[.string s] w fun e w' => e = .returned (.bool true) ∧ Below w.heap.size w w' := by
  have ht := tokens_any s hs w hg
  by_cases h : 65536 < s.size
  · refine lines_none s hs w hg 0 (feeds s.data.toList) 3 (by decide) (Nat.zero_le _) rfl (ht.mono ?_)
    rintro e w' ⟨hb, h1⟩
    rw [if_pos h] at h1
    exact ⟨h1, hb⟩
  · rcases hl : lexL s.data.toList with er | l
    · have hf := lexF_facts s.data.toList.length s.data.toList 0 (Nat.le_refl _)
      rw [show lexF s.data.toList.length s.data.toList 0 = .inl er from hl] at hf
      obtain ⟨n, rfl⟩ : ∃ n : Nat, er = n := ⟨er.toNat, by have := hf.1; omega⟩
      refine lines_none s hs w hg n (feeds s.data.toList) 6 (by decide) (by have := hf.2; omega) rfl (ht.mono ?_)
      rintro e w' ⟨hb, h1⟩
      rw [if_neg h, hl] at h1
      exact ⟨h1, hb⟩
    · exact lines_good s (by omega) l w hg hl
end Go.Proofs.YtneekcggbnodnaaDoor
