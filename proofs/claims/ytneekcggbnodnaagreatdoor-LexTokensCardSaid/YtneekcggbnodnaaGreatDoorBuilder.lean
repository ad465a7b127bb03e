/- strings.Builder at this translation (the library's copy check bears a refused place, so the shelf's contracts are not laid): a byte or a text is put behind what it holds; which blocks may turn. -/
import Derived.Test.YtneekcggbnodnaaGreatDoorShelf
import Derived.WalkKit
import Derived.WalkSmall
import Derived.Lib.Hide
import Derived.Lib.Builder
import Derived.Deep.AppendLies
import Derived.Lib.AppendStr
import Derived.OneCell
import Derived.Lib.SmallJoins
namespace Go.Proofs.YtneekcggbnodnaaGreatDoor
open Go Go.RowKit Go.Lib

theorem bInfo : (Tryz.prog.info? 353).map (·.size) = some 2 := by kernel_rfl
theorem bLies : liesAt Tryz.prog Tryz.prog.depth 353 (2 / Tryz.prog.cellsOf 353) 0 353 1 = true := by kernel_rfl
theorem infoByte : (Tryz.prog.info? 5).map (fun i => (i.zero, i.size, i.bytes)) = some (some (.int .u8 0), 1, 1) := by kernel_rfl

/-- Block b is a strings.Builder of the call's own (from B on) that holds the bytes bs; v is its buffer. -/
structure Bld (B b : Nat) (v : Value) (bs : List UInt8) (w : World) : Prop where
  base : B ≤ b
  lies : ∃ p, (p = .pointer none ∨ p = .pointer (some ⟨b, 0, none⟩)) ∧ w.heap[b]? = some (.cells #[p, v] 353 (0, 0))
  own : w.ownsRow B 5 1 v bs.length (byteCells bs)
  ne : v.ownBlock ≠ some b
theorem Bld.builder {B b : Nat} {v : Value} {bs : List UInt8} {w : World} (h : Bld B b v bs w) : IsBuilder 353 5 B b (byteCells bs) w := by
  obtain ⟨p, hp, hb⟩ := h.lies
  have hl : (byteCells bs).length = bs.length := by simp [byteCells]
  rcases hp with rfl | rfl
  · exact .inl ⟨h.base, v, hb, by rw [hl]; exact h.own, h.ne⟩
  · exact .inr ⟨h.base, v, hb, by rw [hl]; exact h.own, h.ne⟩
theorem Bld.lt {B b : Nat} {v : Value} {bs : List UInt8} {w : World} (h : Bld B b v bs w) : b < w.heap.size := by
  obtain ⟨p, _, hb⟩ := h.lies
  rcases Nat.lt_or_ge b w.heap.size with h' | h'
  · exact h'
  · simp [Array.getElem?_eq_none h'] at hb

/-- What a write may turn: the builder's block b, its buffer's; the new buffer is the old one or new. -/
structure Fr (b : Nat) (v v' : Value) (w w' : World) : Prop where
  os : w'.os = w.os
  tape : w'.tape = w.tape
  output : w'.output = w.output
  size : w.heap.size ≤ w'.heap.size
  block : ∀ k, k < w.heap.size → k ≠ b → some k ≠ v.ownBlock → w'.heap[k]? = w.heap[k]?
  row : v'.ownBlock = v.ownBlock ∨ ∃ g, v'.ownBlock = some g ∧ w.heap.size ≤ g
theorem Fr.trans {b : Nat} {v v1 v2 : Value} {w w1 w2 : World} (h : Fr b v v1 w w1) (k : Fr b v1 v2 w1 w2) : Fr b v v2 w w2 := by
  refine ⟨k.os.trans h.os, k.tape.trans h.tape, k.output.trans h.output, Nat.le_trans h.size k.size, fun j hj hb hv => ?_, ?_⟩
  · rw [k.block j (Nat.lt_of_lt_of_le hj h.size) hb ?_, h.block j hj hb hv]
    rcases h.row with e | ⟨g, e, hg⟩
    · rw [e]; exact hv
    · rw [e]; intro c; have := Option.some.inj c; omega
  · rcases k.row with e | ⟨g, e, hg⟩
    · rw [e]; exact h.row
    · exact .inr ⟨g, e, Nat.le_trans h.size hg⟩
/-- Below the base nothing turns. -/
theorem Fr.below {B b : Nat} {v v' : Value} {bs : List UInt8} {w w' : World} (h : Fr b v v' w w') (hb : Bld B b v bs w) : Below B w w' := by
  refine ⟨h.os, h.tape, h.output, h.size, fun k hk => h.block k (Nat.lt_of_lt_of_le hk (Nat.le_trans hb.base (Nat.le_of_lt hb.lt))) (by have := hb.base; omega) ?_⟩
  intro e
  have := (hb.own.lt k e.symm).1
  omega

set_option maxHeartbeats 1000000 in
set_option maxRecDepth 100000 in
theorem copyCheck_used (b : Nat) (w : World) (h0 : w.cell? ⟨b, 0, none⟩ = some (.pointer (some ⟨b, 0, none⟩))) :
    Calls Tryz.prog 211 #[.pointer (some ⟨b, 0, none⟩)] w fun e w' => e = .returned (.tuple #[]) ∧ w' = w := by
  obtain ⟨j, hj, _⟩ := Option.map_eq_some_iff.1 bInfo
  go_enter Tryz.func211, Tryz.ntmps211
  go_wp2
  rw [Lib.run_neq_ptr_same w _ Tryz.underlying350 hj]
  go_wp2
  go_end0
  exact ⟨rfl, rfl⟩
set_option maxHeartbeats 1000000 in
set_option maxRecDepth 100000 in
theorem copyCheck_fresh (b : Nat) (w : World) (h0 : w.cell? ⟨b, 0, none⟩ = some (.pointer none)) (hsh : w.shape? b = some (353, 2)) (hfz : w.frozen? ⟨b, 0, none⟩ = false) :
    Calls Tryz.prog 211 #[.pointer (some ⟨b, 0, none⟩)] w fun e w' => e = .returned (.tuple #[]) ∧ w' = w.setCell ⟨b, 0, none⟩ (.pointer (some ⟨b, 0, none⟩)) := by
  obtain ⟨j, hj, hjs⟩ := Option.map_eq_some_iff.1 bInfo
  go_enter Tryz.func211, Tryz.ntmps211
  go_wp2
  rw [Lib.run_to_unsafe w ⟨b, 0, none⟩ Tryz.underlying350 Tryz.underlying372 hj (by rw [hjs]; decide) hsh (Nat.zero_lt_succ 1)]
  simp only [Result.andThen]
  rw [Oper.upon_value]
  go_wp2
  rw [run_callFunc_extern Tryz.func221 (by kernel_rfl) (by kernel_rfl) (by kernel_rfl) (e := Extern.AbiNoEscape.same) (by kernel_rfl)]
  rw [Lib.run_noEscape]
  simp only [Result.andThen]
  rw [Oper.upon_value]
  go_wp2
  rw [Lib.run_from_unsafe w ⟨b, 0, none⟩ Tryz.underlying372 Tryz.underlying350 hj hsh bLies]
  simp only [Result.andThen]
  rw [Oper.upon_value]
  go_wp2
  go_end0
  exact ⟨rfl, rfl⟩

/-- copyCheck: the builder holds what it held; its first cell is its own address. -/
theorem copyCheck_any (B b : Nat) (v : Value) (bs : List UInt8) (w : World) (h : Bld B b v bs w) :
    Calls Tryz.prog 211 #[.pointer (some ⟨b, 0, none⟩)] w fun e w' => e = .returned (.tuple #[]) ∧
      w'.heap[b]? = some (.cells #[.pointer (some ⟨b, 0, none⟩), v] 353 (0, 0)) ∧ w'.ownsRow B 5 1 v bs.length (byteCells bs) ∧ Fr b v v w w' := by
  obtain ⟨p, hp, hb⟩ := h.lies
  have c0 : w.cell? ⟨b, 0, none⟩ = some p := by rw [Lib.cell_of_heap hb]; rfl
  rcases hp with rfl | rfl
  · have hsh : w.shape? b = some (353, 2) := by simp [World.shape?, hb]
    refine (copyCheck_fresh b w c0 hsh (Lib.frozen_of_heap hb 0)).mono ?_
    rintro e w' ⟨rfl, rfl⟩
    refine ⟨rfl, ?_, ownsRow_setCell_other h.own (by intro e; exact h.ne e) _, ⟨rfl, rfl, rfl, by simp, fun k _ hk _ => Below.heap_setCell _ _ _ _ hk, .inl rfl⟩⟩
    rw [Joins.block_setCell hb]
    rfl
  · refine (copyCheck_used b w c0).mono ?_
    rintro e w' ⟨rfl, rfl⟩
    exact ⟨rfl, hb, h.own, ⟨rfl, rfl, rfl, Nat.le_refl _, fun _ _ _ _ => rfl, .inl rfl⟩⟩

/-- Behind an append to the buffer, stored back: the builder holds the new bytes. -/
theorem bld_put {B b : Nat} {v v' : Value} {bs : List UInt8} {w' : World} (hB : B ≤ b) (hown : w'.ownsRow B 5 1 v' bs.length (byteCells bs))
    (hb' : w'.heap[b]? = some (.cells #[.pointer (some ⟨b, 0, none⟩), v] 353 (0, 0))) : Bld B b v' bs (w'.setCell ⟨b, 1, none⟩ v') := by
  have hne := ownBlock_ne hown hb' (by decide)
  refine ⟨hB, ⟨_, .inr rfl, ?_⟩, ownsRow_setCell_other hown hne _, hne⟩
  rw [Joins.block_setCell hb']
  rfl
theorem fr_put {b : Nat} {v v' : Value} {w w1 w2 : World} (h : Fr b v v w w1) (hg : w1.grownBy w2 v.ownBlock) (hat : v'.ownBlock = v.ownBlock ∨ ∃ g, v'.ownBlock = some g ∧ w1.heap.size ≤ g) (u : Value) : Fr b v v' w (w2.setCell ⟨b, 1, none⟩ u) := by
  refine h.trans ⟨hg.os, hg.tape, hg.output, by simpa using hg.size, fun k hk hb hv => ?_, ?_⟩
  · rw [Below.heap_setCell _ _ _ _ hb]
    exact hg.block k hk hv
  · exact hat
theorem grown_alloc {w w2 : World} {o : Obj} {row : Option Nat} (h : (w.alloc o).grownBy w2 row) : w.grownBy w2 row :=
  ⟨h.os, h.tape, h.output, by have := h.size; simp at this; omega, fun k hk hr => by rw [h.block k (by simp; omega) hr, Lib.alloc_old w o k hk]⟩

set_option maxHeartbeats 2000000 in
set_option maxRecDepth 100000 in
/-- WriteByte. -/
theorem writeByte (B b : Nat) (v : Value) (bs : List UInt8) (c : UInt8) (w : World) (h : Bld B b v bs w) (hlen : bs.length + 1 ≤ 140737488355328) (hBw : B ≤ w.heap.size) :
    Calls Tryz.prog 199 #[.pointer (some ⟨b, 0, none⟩), .int .u8 (c.toNat : Int)] w fun e w' => e = .returned .nilIface ∧ ∃ v', Bld B b v' (bs ++ [c]) w' ∧ Fr b v v' w w' := by
  obtain ⟨i0, hi, hz0, hz1, hz2⟩ := info_parts infoByte
  have H := Lib.hid h
  have hB := h.base
  clear h
  go_enter Tryz.func199, Tryz.ntmps199
  go_wp2_with (go_at_call 211; refine (copyCheck_any B b v bs _ H.out).mono ?_)
  rintro e w1 ⟨rfl, hbk, hown, hfr⟩
  have c0 : w1.cell? ⟨b, 0, none⟩ = some (.pointer (some ⟨b, 0, none⟩)) := by rw [Lib.cell_of_heap hbk]; rfl
  have c1 : w1.cell? ⟨b, 1, none⟩ = some v := by rw [Lib.cell_of_heap hbk]; rfl
  have hne : v.ownBlock ≠ some b := H.out.ne
  have hsz := hfr.size
  have HF := Lib.hid hfr
  have HK := Lib.hid hbk
  clear hfr hbk
  go_wp2_with (at_builtin; refine wpList_append_own_at _ rfl _ _ 351 rfl B 5 i0 (.int .u8 0) 1 1 Tryz.underlying351 hi hz0 hz1 hz2 rfl (by decide) _ _ _ rfl (hown.alloc _) ⟨w1.heap.size, 0, none⟩ 1 1 [.int .u8 (c.toNat : Int)] rfl rfl ?c1 ?c2 ?c3 ?c4 ?c5 ?_)
  case c1 =>
    intro j u hj
    match j, hj with
    | 0, hj => simp at hj; subst hj; simp [Addr.add]
  case c2 => intro u hu; simp at hu; subst hu; rfl
  case c3 => unfold maxLen; omega
  case c4 => omega
  case c5 => simp; omega
  intro v' w2 hown' hgrow _ hat
  have hlt : b < w1.heap.size := Nat.lt_of_lt_of_le H.out.lt hsz
  have hg1 := grown_alloc hgrow
  have hb2 : w2.heap[b]? = some (.cells #[.pointer (some ⟨b, 0, none⟩), v] 353 (0, 0)) := by
    rw [hg1.block b hlt (fun e => hne e.symm)]
    exact HK.out
  have d0 : w2.cell? ⟨b, 0, none⟩ = some (.pointer (some ⟨b, 0, none⟩)) := by rw [Lib.cell_of_heap hb2]; rfl
  have d1 : w2.cell? ⟨b, 1, none⟩ = some v := by rw [Lib.cell_of_heap hb2]; rfl
  have f1 : w2.frozen? ⟨b, 1, none⟩ = false := Lib.frozen_of_heap hb2 1
  have hat' : v'.ownBlock = v.ownBlock ∨ ∃ g, v'.ownBlock = some g ∧ w1.heap.size ≤ g := by
    rcases hat with e | e
    · exact .inl e
    · exact .inr ⟨_, e, by simp⟩
  have HO : Hid (w2.ownsRow B 5 1 v' (bs ++ [c]).length (byteCells (bs ++ [c]))) := Lib.hid (by simpa [byteCells] using hown')
  obtain ⟨ao, n', cap, rfl⟩ : ∃ ao n' cap, v' = .slice ao n' cap := by
    rcases hown'.2 with ⟨hv, _⟩ | ⟨g, cap, cur, hv, _⟩
    · exact ⟨_, _, _, hv⟩
    · exact ⟨_, _, _, hv⟩
  have HG := Lib.hid hg1
  have HA := Lib.hid hat'
  have HB2 := Lib.hid hb2
  clear hown hown' hgrow hg1 hat hat' hb2 hne
  go_wp2
  go_ret
  exact ⟨rfl, _, bld_put hB HO.out HB2.out, fr_put HF.out HG.out HA.out _⟩

section
variable {P : Program} (w : World)
theorem run_str_at (base : Nat) (t u ty e : TypeId) (i : TypeInfo) (ht : P.underlying t = some (.slice e)) (hu : P.underlying u = some .string) (hi : P.info? e = some i) (hz : i.zero = some (.int .u8 0))
    (hsize : i.size = 1) (hby : i.bytes = 1) (v : Value) (n : Nat) (xs : List Value) (hown : w.ownsRow base e 1 v n xs) (s : ByteArray)
    (h63 : n + s.size ≤ maxLen) (hbytes : n + s.size ≤ 140737488355328) (hbase : base ≤ w.heap.size) :
    ∃ v' w', (Builtin.append_ #[t, u] ty #[v, .string s]).run P w = .ok v' w' ∧ w'.ownsRow base e 1 v' (n + s.size) (xs ++ strCells s) ∧ w.grownBy w' v.ownBlock ∧
      (v'.ownBlock = v.ownBlock ∨ ∃ g, v'.ownBlock = some g ∧ w.heap.size ≤ g) := by
  obtain ⟨v', w', hr, h1, h2, h3⟩ := run_append_own_string (P := P) w base t u ty e i ht hu hi hz hsize hby v n xs hown s h63 hbytes hbase
  refine ⟨v', w', hr, h1, h2, ?_⟩
  have hsmall : n + s.size ≤ 9223372036854775807 := by simp only [maxLen] at h63; omega
  rcases hown.2 with ⟨rfl, rfl⟩ | ⟨g, cap, cur, rfl, hbg, hg, hnc, hcm, hcs, htake⟩
  · by_cases hm : s.size = 0
    · exact .inl (by rw [h3.2 ⟨rfl, hm⟩])
    · have hr2 := run_append_nil_string (P := P) w t u ty e i (.int .u8 0) ht hu hi hz s (by omega) (by omega) (by rw [hby]; omega)
      rw [hr] at hr2
      injection hr2 with e1 e2
      exact .inr ⟨w.heap.size, by rw [e1]; rfl, Nat.le_refl _⟩
  · by_cases hroom : n + s.size ≤ cap
    · have hr2 := run_append_room_string (P := P) w t u ty e i ht hu hi hsize g n cap cur hg s hroom (by rw [hcs]; omega)
      rw [hr] at hr2
      injection hr2 with e1 e2
      exact .inl (by rw [e1]; rfl)
    · have hxl : xs.length = n := by simpa using hown.1
      have hr2 := run_append_grow_string (P := P) w t u ty e i (.int .u8 0) ht hu hi hz ⟨g, 0, none⟩ n cap xs (by rw [hsize]; simpa using hxl) (hown.cells (g := g) rfl) s (by omega) (by omega) (by rw [hby]; exact growslice_fits (by omega) (by omega))
      rw [hr] at hr2
      injection hr2 with e1 e2
      exact .inr ⟨w.heap.size, by rw [e1]; rfl, Nat.le_refl _⟩
theorem wpList_str_at {ops : Array Oper} {rest : List Oper} {o : Oper} {a : Act} {Q : Exit → Act → World → Prop} (hgd : o.guard = none) (sl x : Operand) (t u : TypeId)
    (ho : o.op = .call { callee := .builtin .append, args := #[sl, x], argTypes := #[t, u] })
    (base : Nat) (e : TypeId) (i : TypeInfo) (ht : P.underlying t = some (.slice e)) (hu : P.underlying u = some .string) (hi : P.info? e = some i) (hz : i.zero = some (.int .u8 0))
    (hsize : i.size = 1) (hby : i.bytes = 1)
    (v : Value) (n : Nat) (xs : List Value) (hs : a.eval sl = v) (hown : w.ownsRow base e 1 v n xs) (s : ByteArray) (hx : a.eval x = .string s)
    (h63 : n + s.size ≤ maxLen) (hbytes : n + s.size ≤ 140737488355328) (hbase : base ≤ w.heap.size)
    (h : ∀ v' w', w'.ownsRow base e 1 v' (n + s.size) (xs ++ strCells s) → w.grownBy w' v.ownBlock → (v'.ownBlock = v.ownBlock ∨ ∃ g, v'.ownBlock = some g ∧ w.heap.size ≤ g) → wpList P ops Q rest (a.put o.dst v') w') :
    wpList P ops Q (o :: rest) a w := by
  obtain ⟨v', w', hrun, h1, h2, h3⟩ := run_str_at (P := P) w base t u o.type e i ht hu hi hz hsize hby v n xs hown s h63 hbytes hbase
  refine wpList_plain hgd fun K hK => ?_
  unfold Oper.wp
  simp [execOp, ho, resolve, invoke, builtin, hs, hx, hrun, Result.andThen]
  exact hK _ _ (h v' w' h1 h2 h3)
end

set_option maxHeartbeats 2000000 in
set_option maxRecDepth 100000 in
/-- WriteString. -/
theorem writeString (B b : Nat) (v : Value) (bs : List UInt8) (s : ByteArray) (w : World) (h : Bld B b v bs w) (hlen : bs.length + s.size ≤ 140737488355328) (hBw : B ≤ w.heap.size) :
    Calls Tryz.prog 200 #[.pointer (some ⟨b, 0, none⟩), .string s] w fun e w' => e = .returned (.tuple #[.int .i64 s.size, .nilIface]) ∧ ∃ v', Bld B b v' (bs ++ s.data.toList) w' ∧ Fr b v v' w w' := by
  obtain ⟨i0, hi, hz0, hz1, hz2⟩ := info_parts infoByte
  have H := Lib.hid h
  have hB := h.base
  clear h
  go_enter Tryz.func200, Tryz.ntmps200
  go_wp2_with (go_at_call 211; refine (copyCheck_any B b v bs _ H.out).mono ?_)
  rintro e w1 ⟨rfl, hbk, hown, hfr⟩
  have c0 : w1.cell? ⟨b, 0, none⟩ = some (.pointer (some ⟨b, 0, none⟩)) := by rw [Lib.cell_of_heap hbk]; rfl
  have c1 : w1.cell? ⟨b, 1, none⟩ = some v := by rw [Lib.cell_of_heap hbk]; rfl
  have hne : v.ownBlock ≠ some b := H.out.ne
  have hsz := hfr.size
  have HF := Lib.hid hfr
  have HK := Lib.hid hbk
  clear hfr hbk
  go_wp2_with (at_builtin; refine wpList_str_at _ rfl _ _ 351 9 rfl B 5 i0 Tryz.underlying351 Tryz.underlying9 hi hz0 hz1 hz2 _ _ _ rfl hown s rfl ?c3 ?c4 ?c5 ?_)
  case c3 => unfold maxLen; omega
  case c4 => omega
  case c5 => omega
  intro v' w2 hown' hg1 hat'
  have hlt : b < w1.heap.size := Nat.lt_of_lt_of_le H.out.lt hsz
  have hb2 : w2.heap[b]? = some (.cells #[.pointer (some ⟨b, 0, none⟩), v] 353 (0, 0)) := by
    rw [hg1.block b hlt (fun e => hne e.symm)]
    exact HK.out
  have d0 : w2.cell? ⟨b, 0, none⟩ = some (.pointer (some ⟨b, 0, none⟩)) := by rw [Lib.cell_of_heap hb2]; rfl
  have d1 : w2.cell? ⟨b, 1, none⟩ = some v := by rw [Lib.cell_of_heap hb2]; rfl
  have f1 : w2.frozen? ⟨b, 1, none⟩ = false := Lib.frozen_of_heap hb2 1
  have e1 : (bs ++ s.data.toList).length = bs.length + s.size := by simp
  have e2 : byteCells (bs ++ s.data.toList) = byteCells bs ++ strCells s := by simp [byteCells, strCells]
  have HO : Hid (w2.ownsRow B 5 1 v' (bs ++ s.data.toList).length (byteCells (bs ++ s.data.toList))) := Lib.hid (by rw [e1, e2]; exact hown')
  obtain ⟨ao, n', cap, rfl⟩ : ∃ ao n' cap, v' = .slice ao n' cap := by
    rcases hown'.2 with ⟨hv, _⟩ | ⟨g, cap, cur, hv, _⟩
    · exact ⟨_, _, _, hv⟩
    · exact ⟨_, _, _, hv⟩
  have HG := Lib.hid hg1
  have HA := Lib.hid hat'
  have HB2 := Lib.hid hb2
  clear hown hown' hg1 hat' hb2 hne e1 e2
  go_wp2
  go_ret2
  exact ⟨rfl, _, bld_put hB HO.out HB2.out, fr_put HF.out HG.out HA.out _⟩

/-- String: what it holds. -/
theorem string_any (B b : Nat) (v : Value) (bs : List UInt8) (w : World) (h : Bld B b v bs w) (hBw : B ≤ w.heap.size) :
    Calls Tryz.prog 201 #[.pointer (some ⟨b, 0, none⟩)] w fun e w' => e = .returned (.string ⟨bs.toArray⟩) ∧ Below B w w' := Tryz.Builder_String_any B b bs w h.builder hBw
/-- 'var b strings.Builder'. -/
theorem bld_new (w : World) : Bld w.heap.size w.heap.size (.slice none 0 0) [] (w.alloc (.cells #[.pointer none, .slice none 0 0] 353)) :=
  ⟨Nat.le_refl _, ⟨_, .inl rfl, heap_alloc_new w _⟩, World.ownsRow_nil _ _ _ _, by simp [Value.ownBlock]⟩
end Go.Proofs.YtneekcggbnodnaaGreatDoor
