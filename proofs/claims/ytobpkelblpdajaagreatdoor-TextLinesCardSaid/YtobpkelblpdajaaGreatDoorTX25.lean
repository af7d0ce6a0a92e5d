/- More of the library's contracts, at this translation (printed by the kit's lay-plain.mjs). -/
import Derived.Shelf.Strings.Builder1
import Derived.Shelf.Strings.Builder2
import Derived.Shelf.Small.Bits
import Derived.Shelf.Small.Strs
import Derived.Shelf.Small.Wraps
import Derived.Shelf.Strings.BuilderF
import Derived.Shelf.Strings.BuilderK
import Derived.Shelf.Strings.Builder2Cap
import Derived.Shelf.Strconv.Atoi
import Derived.Shelf.Strconv.Itoa0
import Derived.Shelf.Strconv.Itoa1
import Derived.Shelf.LaysM
import Derived.Shelf.Strconv.Itoa2
import Derived.Shelf.Strconv.Itoa3
import Derived.Shelf.Strconv.Itoa4
import Derived.Shelf.Strconv.AtoiErrFast
import Derived.Shelf.Strconv.ParseIntEmpty
import Derived.Shelf.Strconv.AtoiFail
import Derived.Shelf.Strconv.Clone
import Derived.Shelf.Strconv.SyntaxError
import Derived.Shelf.LaysC
import Derived.Shelf.Strconv.ToError
import Derived.Shelf.Strconv.Lower
import Derived.Shelf.Strconv.ParseUint10
import Derived.Shelf.Strconv.ParseUint10Empty
import Derived.Shelf.Strconv.ParseUint10Any
import Derived.Shelf.Strconv.ParseInt10
import Derived.Shelf.Strconv.AtoiLong
import Derived.Shelf.Strconv.AtoiInnerAll
import Derived.Shelf.Strconv.RangeError
import Derived.Shelf.Strconv.ToErrorRange
import Derived.Shelf.Strconv.AtoiAll
import Derived.Shelf.Strconv.ErrVarAll
import Derived.Shelf.Strconv.ParseUintEmpty
import Derived.Shelf.Strconv.ParseUint10b64
import Derived.Shelf.Strconv.ParseUint10b32
import Derived.Shelf.Strconv.ParseUint10b16
import Derived.Shelf.Strconv.ParseUint10b8
import Derived.Shelf.Strconv.ParseUint10At
import Derived.Shelf.Strconv.ParseInt10At64
import Derived.Shelf.Strconv.ParseInt10At32
import Derived.Shelf.Strconv.ParseInt10At16
import Derived.Shelf.Strconv.ParseInt10At8
import Derived.Shelf.Strconv.ParseInt10All
import Derived.Shelf.Strconv.ParseIntPublic10
import Derived.Shelf.Strconv.ErrVarParseInt
import Derived.Ground.MpProg
import Derived.Shelf.Pu.ParseUintPublic10
import Derived.Shelf.Pu.ErrVarParseUint
import Derived.Shelf.Strings.Search1
import Derived.Shelf.Strconv.AppendUint10
import Derived.Shelf.Strconv.AppendInt10
import Derived.Shelf.Strings.Prefix
import Derived.Shelf.Bits.Mul64
import Derived.Shelf.Strings.Repeat
import Derived.Shelf.Slices.Turned
import Derived.Ground.Names2Prog
import Derived.Shelf.Slices.SearchI
import Derived.Test.YtobpkelblpdajaaGreatDoorProg
import Derived.Test.YtobpkelblpdajaaGreatDoorTX06
import Derived.Test.YtobpkelblpdajaaGreatDoorTX20
import Derived.Outline
set_option linter.unusedVariables false
set_option linter.unusedSimpArgs false
set_option linter.unusedSectionVars false
namespace Go.Proofs
open Go.Shelf
def Tryz.lays137_ren : Go.Shelf.Ren := ⟨fun | 137 => 135 | 217 => 192 | 266 => 256 | n => n, fun | 9 => 9 | 5 => 5 | 3 => 3 | n => n, fun | n => n⟩
theorem Tryz.lays137 : Go.Proofs.Lays.n137 Tryz.prog Tryz.lays137_ren := {
  mixed := by kernel_rfl
  f137 := Tryz.func135.trans (congrArg some (by kernel_rfl))
  f217 := Tryz.func192.trans (congrArg some (by kernel_rfl))
  f266 := Tryz.func256.trans (congrArg some (by kernel_rfl))
  t3 := Tryz.underlying3
  a3 := Tryz.isAgg3
  z3 := Tryz.sizeOf3
  v3 := Tryz.zeroValue3
  t5 := Tryz.underlying5
  a5 := Tryz.isAgg5
  z5 := Tryz.sizeOf5
  v5 := Tryz.zeroValue5
  t9 := Tryz.underlying9
  a9 := Tryz.isAgg9
  z9 := Tryz.sizeOf9
  v9 := Tryz.zeroValue9 }
open Go.RowKit in
theorem Tryz.strings_IndexByte (s : ByteArray) (c : Int) (w : World) :
    Calls Tryz.prog 135 #[.string s, .int .u8 c] w fun e w' => e = .returned (.int .i64 (Lib.indexByte s.data.toList c.toNat.toUInt8)) ∧ w' = w := Any.strings_IndexByte Tryz.lays137 s c w
def Tryz.lays99_ren : Go.Shelf.Ren := ⟨fun | 99 => 188 | 206 => 252 | n => n, fun | 9 => 9 | 4 => 4 | 3 => 3 | n => n, fun | n => n⟩
theorem Tryz.lays99 : Go.Proofs.Lays.n99 Tryz.prog Tryz.lays99_ren := {
  mixed := by kernel_rfl
  f99 := Tryz.func188.trans (congrArg some (by kernel_rfl))
  f206 := Tryz.func252.trans (congrArg some (by kernel_rfl))
  t3 := Tryz.underlying3
  a3 := Tryz.isAgg3
  z3 := Tryz.sizeOf3
  v3 := Tryz.zeroValue3
  t4 := Tryz.underlying4
  a4 := Tryz.isAgg4
  z4 := Tryz.sizeOf4
  v4 := Tryz.zeroValue4
  t9 := Tryz.underlying9
  a9 := Tryz.isAgg9
  z9 := Tryz.sizeOf9
  v9 := Tryz.zeroValue9 }
open Go.RowKit Go.Lib in
theorem Tryz.strings_HasPrefix (s p : ByteArray) (w : World) :
    Calls Tryz.prog 188 #[.string s, .string p] w fun e w' => e = .returned (.bool (Lib.hasPrefix s.data.toList p.data.toList)) ∧ w' = w := Any.strings_HasPrefix Tryz.lays99 s p w
end Go.Proofs
/- Walks: the parser: its block, its giving up, its runs, blanks, the next byte. -/
namespace Go.Proofs.YtobpkelblpdajaaGreatDoor
open Go Go.RowKit
/- All memory but one block is as it was. -/
structure Pside (bp : Nat) (w w' : World) : Prop where
  os : w'.os = w.os
  tape : w'.tape = w.tape
  output : w'.output = w.output
  size : w.heap.size ≤ w'.heap.size
  block : ∀ k, k < w.heap.size → k ≠ bp → w'.heap[k]? = w.heap[k]?
theorem Pside.refl (bp : Nat) (w : World) : Pside bp w w := ⟨rfl, rfl, rfl, Nat.le_refl _, fun _ _ _ => rfl⟩
theorem Pside.trans {bp : Nat} {a b c : World} (h : Pside bp a b) (k : Pside bp b c) : Pside bp a c :=
  ⟨k.os.trans h.os, k.tape.trans h.tape, k.output.trans h.output, Nat.le_trans h.size k.size, fun i hi hn => (k.block i (Nat.lt_of_lt_of_le hi h.size) hn).trans (h.block i hi hn)⟩
theorem Pside.of_below {bp : Nat} {w w' : World} (h : Below w.heap.size w w') : Pside bp w w' := ⟨h.os, h.tape, h.output, h.size, fun k hk _ => h.block k hk⟩
theorem Pside.drew {bp : Nat} {a w : World} (h : Pside bp a w) : Pside bp a w.drew := ⟨h.os, h.tape, h.output, h.size, h.block⟩
theorem Pside.drewN {bp : Nat} {a w : World} (h : Pside bp a w) (n : Nat) : Pside bp a (w.drewN n) := ⟨h.os, h.tape, h.output, h.size, h.block⟩
theorem Pside.set {bp : Nat} {a w : World} (h : Pside bp a w) (o : Nat) (u : Value) : Pside bp a (w.setCell ⟨bp, o, none⟩ u) := by
  have hb : Below bp w (w.setCell ⟨bp, o, none⟩ u) := (Below.refl bp w).setCell (p := ⟨bp, o, none⟩) (Nat.le_refl _) u
  exact h.trans ⟨hb.os, hb.tape, hb.output, hb.size, fun k _ hn => Below.heap_setCell w ⟨bp, o, none⟩ u k hn⟩
theorem Pside.cell {bp : Nat} {w w' : World} (h : Pside bp w w') {p : Addr} (hp : p.block < w.heap.size) (hn : p.block ≠ bp) : w'.cell? p = w.cell? p := World.cell?_of_block (w := w) (h.block p.block hp hn)
/- The parser lies in a block: the text, how far it came, how many parts were begun. -/
def PaAt (w : World) (bp : Nat) (s : ByteArray) (at_ n : Nat) : Prop := w.heap[bp]? = some (.cells #[.string s, .int .i64 at_, .int .i64 n] 169 (0, 0))
theorem PaAt.lt {w : World} {bp : Nat} {s : ByteArray} {a n : Nat} (h : PaAt w bp s a n) : bp < w.heap.size := (Array.getElem?_eq_some_iff.1 h).1
theorem PaAt.c0 {w : World} {bp : Nat} {s : ByteArray} {a n : Nat} (h : PaAt w bp s a n) : w.cell? ⟨bp, 0, none⟩ = some (.string s) := by rw [Lib.cell_of_heap h]; rfl
theorem PaAt.c1 {w : World} {bp : Nat} {s : ByteArray} {a n : Nat} (h : PaAt w bp s a n) : w.cell? ⟨bp, 1, none⟩ = some (.int .i64 a) := by rw [Lib.cell_of_heap h]; rfl
theorem PaAt.c2 {w : World} {bp : Nat} {s : ByteArray} {a n : Nat} (h : PaAt w bp s a n) : w.cell? ⟨bp, 2, none⟩ = some (.int .i64 n) := by rw [Lib.cell_of_heap h]; rfl
theorem PaAt.f {w : World} {bp : Nat} {s : ByteArray} {a n : Nat} (h : PaAt w bp s a n) (o : Nat) : w.frozen? ⟨bp, o, none⟩ = false := by unfold PaAt at h; simp [World.frozen?, h]
theorem PaAt.set1 {w : World} {bp : Nat} {s : ByteArray} {a n : Nat} (h : PaAt w bp s a n) (b : Nat) : PaAt (w.setCell ⟨bp, 1, none⟩ (.int .i64 b)) bp s b n := by
  unfold PaAt at *
  simp [World.setCell, Array.getElem?_modify, h]
theorem PaAt.set2 {w : World} {bp : Nat} {s : ByteArray} {a n : Nat} (h : PaAt w bp s a n) (b : Nat) : PaAt (w.setCell ⟨bp, 2, none⟩ (.int .i64 b)) bp s a b := by
  unfold PaAt at *
  simp [World.setCell, Array.getElem?_modify, h]
theorem PaAt.below {w w' : World} {bp : Nat} {s : ByteArray} {a n : Nat} (h : PaAt w bp s a n) (hb : Below w.heap.size w w') : PaAt w' bp s a n := (hb.block bp h.lt).trans h
theorem PaAt.drewN {w : World} {bp : Nat} {s : ByteArray} {a n : Nat} (h : PaAt w bp s a n) (k : Nat) : PaAt (w.drewN k) bp s a n := h
/- What it gives up with. -/
def pfaultV (a : Nat) (why : Nat) : Value := .iface 245 (.agg #[.int .i64 a, .int .i64 why])
def Gives (bp a why : Nat) (w : World) (e : Ending) (w' : World) : Prop := e = .panicked [{ v := pfaultV a why, recovered := false }] ∧ Pside bp w w'
set_option maxRecDepth 100000 in
set_option maxHeartbeats 1000000 in
theorem fail_any (p : Value) (bp a why : Nat) (hp : p.oneCell' = true) (w : World) : Calls Tryz.prog 81 #[p, .int .i64 a, .int .i64 why] w (Gives bp a why w) := by
  go_enter Tryz.func81, Tryz.ntmps81
  go_wp2
  exact ⟨rfl, rfl, Pside.refl _ _⟩
/- A run of bytes of some kind. -/
def runN (p : List UInt8) (L : List UInt8) (a : Nat) : Nat := ((L.drop a).takeWhile fun c => p.contains c).length
theorem runN_no {p L : List UInt8} {a : Nat} {c : UInt8} (hc : L[a]? = some c) (h : p.contains c = false) : runN p L a = 0 := by
  have ha := (List.getElem?_eq_some_iff.1 hc).1
  unfold runN
  rw [List.drop_eq_getElem_cons ha]
  rw [List.getElem?_eq_getElem ha] at hc
  injection hc with hc
  rw [hc, List.takeWhile_cons, h]; rfl
theorem runN_yes {p L : List UInt8} {a : Nat} {c : UInt8} (hc : L[a]? = some c) (h : p.contains c = true) : runN p L a = runN p L (a + 1) + 1 := by
  have ha := (List.getElem?_eq_some_iff.1 hc).1
  unfold runN
  rw [List.drop_eq_getElem_cons ha]
  rw [List.getElem?_eq_getElem ha] at hc
  injection hc with hc
  rw [hc, List.takeWhile_cons, h]; rfl
theorem runN_end {p L : List UInt8} {a : Nat} (h : L.length ≤ a) : runN p L a = 0 := by
  unfold runN; rw [List.drop_of_length_le h]; rfl
theorem runN_le {p L : List UInt8} {a : Nat} (h : a ≤ L.length) : a + runN p L a ≤ L.length := by
  unfold runN
  have h1 := (List.takeWhile_sublist (fun c => p.contains c) (l := L.drop a)).length_le
  rw [List.length_drop] at h1
  omega
theorem idx_has {l : List UInt8} {c : UInt8} : (0 ≤ Lib.indexByte l c) ↔ l.contains c = true := by
  have hge := Lib.indexByte_ge l c
  constructor
  · intro h
    obtain ⟨o, ho⟩ : ∃ o : Nat, Lib.indexByte l c = o := ⟨(Lib.indexByte l c).toNat, by omega⟩
    have := (Lib.indexByte_some ho).1
    simp only [List.contains_iff_mem]
    exact List.mem_of_getElem? this
  · intro h
    by_cases h1 : Lib.indexByte l c = -1
    · exfalso
      have h2 := Lib.indexByte_none h1
      rw [List.contains_iff_mem] at h
      obtain ⟨k, hk⟩ := List.mem_iff_getElem?.1 h
      exact h2 k hk
    · omega
def RunPost (bp : Nat) (s : ByteArray) (p : List UInt8) (a n : Nat) (w : World) (e : Ending) (w' : World) : Prop := e = .returned (.string (s.extract a (a + runN p s.data.toList a))) ∧ PaAt w' bp s (a + runN p s.data.toList a) n ∧ Pside bp w w'
set_option maxRecDepth 100000 in
set_option maxHeartbeats 4000000 in
theorem run_any (bp : Nat) (s p : ByteArray) (a n : Nat) (w : World) (h : PaAt w bp s a n) (ha : a ≤ s.size) (hs : s.size ≤ 140737488351232) : Calls Tryz.prog 143 #[.pointer (some ⟨bp, 0, none⟩), .string p] w (RunPost bp s p.data.toList a n w) := by
  have hsz : s.data.toList.length = s.size := size_list s
  have HSZ := Lib.hid hsz
  have HIX := Lib.hid (fun (c : UInt8) (x : Int) (W : World) (hx : x = (c.toNat : Int)) => (by have := Tryz.strings_IndexByte p c.toNat W; rw [hx]; simpa using this : Calls Tryz.prog 135 #[.string p, .int .u8 x] W (fun e w' => e = .returned (.int .i64 (Lib.indexByte p.data.toList c)) ∧ w' = W)))
  have hlt := h.lt
  have e1 := h.c1
  have HP := Lib.hid h
  have HA := Lib.hid ha
  clear h ha hsz
  go_enter Tryz.func143, Tryz.ntmps143
  go_wp2_with fail
  clear e1
  go_loopg [] (s.size - a) (fun g wr => ∃ q : Nat, Hid (q + g = s.size) ∧ a ≤ q ∧ q ≤ s.size ∧ Hid (runN p.data.toList s.data.toList a = (q - a) + runN p.data.toList s.data.toList q) ∧ PaAt wr bp s q n ∧ Pside bp w wr)
  case atStart => exact ⟨a, Lib.hid (by have := HA.out; omega), Nat.le_refl _, HA.out, Lib.hid (by simp), HP.out, Pside.refl _ _⟩
  case round =>
    obtain ⟨q, HQ, haq, hqs, HR, hpa, hps⟩ := hrel
    have hltr := hpa.lt
    have e0 := hpa.c0
    have e1 := hpa.c1
    have f1 := hpa.f 1
    have HPA := Lib.hid hpa
    have HPS := Lib.hid hps
    clear hpa hps
    have DONE : Hid (runN p.data.toList s.data.toList q = 0 → a + runN p.data.toList s.data.toList a = q) := Lib.hid (fun h => by rw [HR.out, h]; omega)
    cases gk with
    | zero =>
      have hak : q = s.size := HQ.out
      have HK := Lib.hid (DONE.out (runN_end (by rw [HSZ.out]; omega)))
      have hd1 : decide (q < s.size) = false := by rw [decide_eq_false_iff_not]; omega
      have hd2 : decide ((q : Int) < (s.size : Int)) = false := by rw [decide_eq_false_iff_not]; omega
      have hd3 : ¬ q < s.size := by omega
      clear hak
      go_wp2_with fail
      go_quiet (fail)
      go_wp2_with fail
      go_quiet (fail)
      go_wp2_with fail
      go_ret
      exact ⟨by rw [HK.out]; rfl, by rw [HK.out]; exact (HPA.out.drewN _).drewN _, (HPS.out.drewN _).drewN _⟩
    | succ g =>
      have hak : q < s.size := by have := HQ.out; omega
      have hd1 : decide (q < s.size) = true := by rw [decide_eq_true_iff]; exact hak
      have hd2 : decide ((q : Int) < (s.size : Int)) = true := by rw [decide_eq_true_iff]; omega
      obtain ⟨c, hc⟩ : ∃ c, s.data.toList[q]? = some c := ⟨_, List.getElem?_eq_getElem (by rw [HSZ.out]; omega)⟩
      obtain ⟨x, hx⟩ : ∃ x : Int, x = (c.toNat : Int) := ⟨_, rfl⟩
      have HX := Lib.hid hx
      have hix : ∀ W : World, (Instr.index 9 (.string s) (.int .i64 (q : Int))).run Tryz.prog W = .ok (.int .u8 x) W := fun W => by
        have : s[q]'hak = c := by
          have h1 : s.data.toList[q]? = some (s[q]'hak) := by rw [List.getElem?_eq_getElem (by rw [HSZ.out]; omega)]; rfl
          rw [h1] at hc; exact Option.some.inj hc
        simp [go_sem, hak, this, hx]
      obtain ⟨j, hj⟩ : ∃ j : Int, j = Lib.indexByte p.data.toList c := ⟨_, rfl⟩
      have HCA := Lib.hid (fun (W : World) => (by have := HIX.out c x W HX.out; rw [← hj] at this; exact this : Calls Tryz.prog 135 #[.string p, .int .u8 x] W (fun e w' => e = .returned (.int .i64 j) ∧ w' = W)))
      by_cases hcn : p.data.toList.contains c = true
      · have hj0 : 0 ≤ j := by rw [hj]; exact idx_has.2 hcn
        have hj1 : decide (0 ≤ j) = true := by rw [decide_eq_true_iff]; exact hj0
        have HK2 : Hid (runN p.data.toList s.data.toList a = (q + 1 - a) + runN p.data.toList s.data.toList (q + 1)) := Lib.hid (by rw [HR.out, runN_yes hc hcn]; omega)
        clear hj hx hc hcn
        go_wp2_with fail
        go_quiet ((go_at_call 135; exact Calls.quiet_of_same (HCA.out _)))
        go_wp2_with fail
        go_roundg g
        case rel => exact ⟨q + 1, Lib.hid (by have := HQ.out; omega), by omega, by omega, HK2, by have h := (HPA.out.drewN nq).set1 (q + 1); simpa using h, (HPS.out.drewN nq).set 1 _⟩
        case measure => omega
      · have hj0 : j < 0 := by
          by_cases h : 0 ≤ j
          · exact absurd (idx_has.1 (by rw [← hj]; exact h)) hcn
          · omega
        have hj1 : decide (0 ≤ j) = false := by rw [decide_eq_false_iff_not]; omega
        have HK := Lib.hid (DONE.out (runN_no hc (by simpa using hcn)))
        clear hj hx hc hcn
        go_wp2_with fail
        go_quiet ((go_at_call 135; exact Calls.quiet_of_same (HCA.out _)))
        go_wp2_with fail
        go_quiet (fail)
        go_wp2_with fail
        go_ret
        exact ⟨by rw [HK.out]; rfl, by rw [HK.out]; exact (HPA.out.drewN _).drewN _, (HPS.out.drewN _).drewN _⟩
def blankL : List UInt8 := [32, 9, 10, 13]
def skipN (L : List UInt8) (a : Nat) : Nat := a + runN blankL L a
theorem skipN_le {L : List UInt8} {a : Nat} (h : a ≤ L.length) : skipN L a ≤ L.length := runN_le h
set_option maxRecDepth 100000 in
set_option maxHeartbeats 1000000 in
theorem blanks_any (bp : Nat) (s : ByteArray) (a n : Nat) (w : World) (h : PaAt w bp s a n) (ha : a ≤ s.size) (hs : s.size ≤ 140737488351232) : Calls Tryz.prog 80 #[.pointer (some ⟨bp, 0, none⟩)] w (fun e w' => e = .returned (.tuple #[]) ∧ PaAt w' bp s (skipN s.data.toList a) n ∧ Pside bp w w') := by
  have H := Lib.hid (run_any bp s ⟨#[32, 9, 10, 13]⟩ a n w h ha hs)
  clear h
  go_enter Tryz.func80, Tryz.ntmps80
  go_wp2_with fail
  refine H.out.mono ?_
  rintro e w1 ⟨rfl, h1, h2⟩
  go_wp2_with fail
  go_end0
  exact ⟨rfl, h1, h2⟩
/- The next byte that is no blank. -/
def NextPost (bp : Nat) (s : ByteArray) (a n : Nat) (w : World) (e : Ending) (w' : World) : Prop := match s.data.toList[skipN s.data.toList a]? with
  | none => Gives bp s.size 4 w e w'
  | some c => e = .returned (.int .u8 (c.toNat : Int)) ∧ PaAt w' bp s (skipN s.data.toList a) n ∧ Pside bp w w'
theorem index_at {s : ByteArray} {q : Nat} {c : UInt8} (hc : s.data.toList[q]? = some c) {x : Int} (hx : x = (c.toNat : Int)) (W : World) : (Instr.index 9 (.string s) (.int .i64 (q : Int))).run Tryz.prog W = .ok (.int .u8 x) W := by
  have hlt : q < s.size := by have := (List.getElem?_eq_some_iff.1 hc).1; rw [size_list] at this; exact this
  have : s[q]'hlt = c := by
    have h1 : s.data.toList[q]? = some (s[q]'hlt) := by rw [List.getElem?_eq_getElem (by rw [size_list]; omega)]; rfl
    rw [h1] at hc; exact Option.some.inj hc
  simp [go_sem, hlt, this, hx]
set_option maxRecDepth 100000 in
set_option maxHeartbeats 2000000 in
theorem next_any (bp : Nat) (s : ByteArray) (a n : Nat) (w : World) (h : PaAt w bp s a n) (ha : a ≤ s.size) (hs : s.size ≤ 140737488351232) : Calls Tryz.prog 134 #[.pointer (some ⟨bp, 0, none⟩)] w (NextPost bp s a n w) := by
  have HB := Lib.hid (blanks_any bp s a n w h ha hs)
  have hle : skipN s.data.toList a ≤ s.size := by have := skipN_le (L := s.data.toList) (a := a) (by rw [size_list]; exact ha); rwa [size_list] at this
  have HF := Lib.hid (fun (q : Nat) (W : World) => fail_any (.pointer (some ⟨bp, 0, none⟩)) bp q 4 rfl W)
  obtain ⟨q, hq⟩ : ∃ q, q = skipN s.data.toList a := ⟨_, rfl⟩
  rw [← hq] at HB hle
  have HN : Hid (NextPost bp s a n w = fun e w' => match s.data.toList[q]? with
    | none => Gives bp s.size 4 w e w'
    | some c => e = .returned (.int .u8 (c.toNat : Int)) ∧ PaAt w' bp s q n ∧ Pside bp w w') := Lib.hid (by unfold NextPost; rw [← hq])
  rw [HN.out]
  have hlt := h.lt
  clear h hq HN
  by_cases hqs : q = s.size
  · have hg : s.data.toList[q]? = none := by rw [List.getElem?_eq_none_iff, size_list]; omega
    have hd1 : (q == s.size) = true := by rw [beq_iff_eq]; exact hqs
    have hd2 : ((q : Int) == (s.size : Int)) = true := by rw [beq_iff_eq]; omega
    rw [hg]
    have HE := Lib.hid hqs
    clear hg hqs
    go_enter Tryz.func134, Tryz.ntmps134
    go_wp2_with fail
    refine HB.out.mono ?_
    rintro e w1 ⟨rfl, h1, h2⟩
    have e0 := h1.c0
    have e1 := h1.c1
    go_wp2_with fail
    go_quiet (fail)
    go_wp2_with fail
    refine (HF.out q _).mono ?_
    rintro e w2 ⟨rfl, h3⟩
    exact ⟨rfl, by rw [HE.out], h2.trans ((Pside.refl _ _).drewN _ |>.trans h3)⟩
  · have hlt2 : q < s.size := by omega
    obtain ⟨c, hc⟩ : ∃ c, s.data.toList[q]? = some c := ⟨_, List.getElem?_eq_getElem (by rw [size_list]; omega)⟩
    have hd1 : (q == s.size) = false := by rw [beq_eq_false_iff_ne]; exact hqs
    have hd2 : ((q : Int) == (s.size : Int)) = false := by rw [beq_eq_false_iff_ne]; omega
    have hix := fun (W : World) => index_at hc rfl W
    rw [hc]
    clear hc hqs
    simp only
    go_enter Tryz.func134, Tryz.ntmps134
    go_wp2_with fail
    refine HB.out.mono ?_
    rintro e w1 ⟨rfl, h1, h2⟩
    have e0 := h1.c0
    have e1 := h1.c1
    have H1 := Lib.hid h1
    have H2 := Lib.hid h2
    clear h1 h2
    go_wp2_with fail
    go_quiet (fail)
    go_wp2_with fail
    go_quiet (fail)
    go_wp2_with fail
    go_ret
    exact ⟨rfl, (H1.out.drewN _).drewN _, (H2.out.drewN _).drewN _⟩
end Go.Proofs.YtobpkelblpdajaaGreatDoor
