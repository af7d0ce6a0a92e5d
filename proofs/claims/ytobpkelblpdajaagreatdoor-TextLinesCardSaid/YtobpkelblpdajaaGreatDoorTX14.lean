/- Walks: the printer's builder: a strings.Builder that lies at the head of the printer's block. -/
import Derived.Test.YtobpkelblpdajaaGreatDoorTX13
import Derived.Lib.Builder
import Derived.Lib.OthersKept
import Derived.Lib.UnsafeStr
import Derived.Lib.Walk
import Derived.Laws.Externs
import Derived.Lib.ItoaNum
import Derived.Lib.ItoaLen
import Derived.Lib.Hide
set_option linter.unusedVariables false
set_option linter.unusedSimpArgs false
set_option linter.unusedSectionVars false
namespace Go.Proofs.YtobpkelblpdajaaGreatDoor
open Go Go.RowKit
/- The printer in block bp: what was written, and whether over many lines; its row of bytes is its own, from block B on. -/
def PrAt (w : World) (B bp : Nat) (ln : Bool) (p : Value) (bs : List UInt8) : Prop :=
  B ≤ bp ∧ ∃ v, w.heap[bp]? = some (.cells #[p, v, .bool ln] 194 (0, 0)) ∧ OwnB w B v bs ∧ v.ownBlock ≠ some bp
def Pr (w : World) (B bp : Nat) (ln : Bool) (bs : List UInt8) : Prop := PrAt w B bp ln (.pointer none) bs ∨ PrAt w B bp ln (.pointer (some ⟨bp, 0, none⟩)) bs
def PrKept (B bp : Nat) (w w' : World) : Prop := Below B w w' ∧ Lib.OthersKept 5 (some bp) w w'
theorem PrKept.refl (B bp : Nat) (w : World) : PrKept B bp w w := ⟨Below.refl _ _, Lib.OthersKept.refl _ _ _⟩
theorem PrKept.trans {B bp : Nat} {a b c : World} (h : PrKept B bp a b) (g : PrKept B bp b c) : PrKept B bp a c := ⟨h.1.trans g.1, h.2.trans g.2⟩
theorem PrAt.lt {w : World} {B bp : Nat} {ln : Bool} {p : Value} {bs : List UInt8} (h : PrAt w B bp ln p bs) : bp < w.heap.size := by
  obtain ⟨_, v, hb, _⟩ := h
  exact (Array.getElem?_eq_some_iff.1 hb).1
theorem Pr.lt {w : World} {B bp : Nat} {ln : Bool} {bs : List UInt8} (h : Pr w B bp ln bs) : bp < w.heap.size := h.elim PrAt.lt PrAt.lt
theorem Pr.le {w : World} {B bp : Nat} {ln : Bool} {bs : List UInt8} (h : Pr w B bp ln bs) : B ≤ bp := h.elim (·.1) (·.1)
theorem Pr.line {w : World} {B bp : Nat} {ln : Bool} {bs : List UInt8} (h : Pr w B bp ln bs) : w.cell? ⟨bp, 2, none⟩ = some (.bool ln) := by
  rcases h with ⟨_, v, hb, _⟩ | ⟨_, v, hb, _⟩ <;> (rw [Lib.cell_of_heap hb]; rfl)
/- A block of its own that is no row of bytes and not the printer's stays. -/
theorem PrKept.block {B bp : Nat} {w w' : World} (h : PrKept B bp w w') {k : Nat} {o : Obj} (hk : w.heap[k]? = some o) (hne : k ≠ bp) (ho : ∀ c fz, o ≠ .cells c 5 fz) : w'.heap[k]? = some o := h.2 k o hk (by intro e; exact hne (Option.some.inj e)) ho
theorem PrAt.used {w : World} {B bp : Nat} {ln : Bool} {p : Value} {bs : List UInt8} (h : PrAt w B bp ln p bs) (q : Value) : PrAt (w.setCell ⟨bp, 0, none⟩ q) B bp ln q bs := by
  have hlt := h.lt
  obtain ⟨hB, v, hb, hown, hne⟩ := h
  refine ⟨hB, v, ?_, ?_, hne⟩
  · simp [World.setCell, Array.getElem?_modify, hb]
  · exact World.ownsRow.kept hown (row := some bp) ⟨rfl, rfl, rfl, by simp [World.setCell], fun k _ hk => Below.heap_setCell _ _ _ _ (fun e => hk (by simp [e]))⟩ (Or.inr hne)
theorem own_kind_row {w : World} {B : Nat} {v : Value} {l : List UInt8} (h : OwnB w B v l) : ∀ g, v.ownBlock = some g → ∃ c fz, w.heap[g]? = some (.cells c 5 fz) := by
  intro g hg
  rcases h.2 with ⟨rfl, _⟩ | ⟨g', cap, cur, rfl, _, hgg, _⟩
  · simp [Value.ownBlock] at hg
  · simp [Value.ownBlock] at hg
    subst hg
    exact ⟨cur, (0, 0), hgg⟩
/- A new row in the place of the old one. -/
theorem PrAt.put {w w2 : World} {B bp : Nat} {ln : Bool} {v v2 : Value} {bs2 : List UInt8} (hb : w.heap[bp]? = some (.cells #[.pointer (some ⟨bp, 0, none⟩), v, .bool ln] 194 (0, 0))) (hB : B ≤ bp) (hne : v.ownBlock ≠ some bp) (hg : w.grownBy w2 v.ownBlock) (h2 : OwnB w2 B v2 bs2) :
    PrAt (w2.setCell ⟨bp, 1, none⟩ v2) B bp ln (.pointer (some ⟨bp, 0, none⟩)) bs2 := by
  have hlt : bp < w.heap.size := (Array.getElem?_eq_some_iff.1 hb).1
  have hb2 : w2.heap[bp]? = some (.cells #[.pointer (some ⟨bp, 0, none⟩), v, .bool ln] 194 (0, 0)) := (hg.block bp hlt (fun e => hne e.symm)).trans hb
  have hne2 : v2.ownBlock ≠ some bp := by
    intro e
    obtain ⟨c, fz, hc⟩ := own_kind_row h2 bp e
    rw [hb2] at hc
    injection hc with hc
    injection hc with _ hc _
    exact absurd hc (by decide)
  refine ⟨hB, v2, ?_, ?_, hne2⟩
  · simp [World.setCell, Array.getElem?_modify, hb2]
  · exact World.ownsRow.kept h2 (row := some bp) ⟨rfl, rfl, rfl, by simp [World.setCell], fun k _ hk => Below.heap_setCell _ _ _ _ (fun e => hk (by simp [e]))⟩ (Or.inr hne2)
theorem Tryz.sizeBuilder : (Tryz.prog.info? 192).map (·.size) = some 2 := by kernel_rfl
theorem Tryz.liesBuilder : liesAt Tryz.prog Tryz.prog.depth 194 (3 / Tryz.prog.cellsOf 194) 0 192 1 = true := by kernel_rfl
set_option maxHeartbeats 1000000 in
set_option maxRecDepth 100000 in
theorem pcheck_used (b : Nat) (w : World) (h0 : w.cell? ⟨b, 0, none⟩ = some (.pointer (some ⟨b, 0, none⟩))) :
    Calls Tryz.prog 208 #[.pointer (some ⟨b, 0, none⟩)] w fun e w' => e = .returned (.tuple #[]) ∧ w' = w := by
  obtain ⟨j, hj, _⟩ := Option.map_eq_some_iff.1 Tryz.sizeBuilder
  go_enter Tryz.func208, Tryz.ntmps208
  go_wp2
  rw [Lib.run_neq_ptr_same w _ Tryz.underlying190 hj]
  go_wp2
  go_end0
  exact ⟨rfl, rfl⟩
set_option maxHeartbeats 1000000 in
set_option maxRecDepth 100000 in
theorem pcheck_fresh (b : Nat) (w : World) (h0 : w.cell? ⟨b, 0, none⟩ = some (.pointer none)) (hsh : w.shape? b = some (194, 3)) (hfz : w.frozen? ⟨b, 0, none⟩ = false) :
    Calls Tryz.prog 208 #[.pointer (some ⟨b, 0, none⟩)] w fun e w' => e = .returned (.tuple #[]) ∧ w' = w.setCell ⟨b, 0, none⟩ (.pointer (some ⟨b, 0, none⟩)) := by
  obtain ⟨j, hj, hjs⟩ := Option.map_eq_some_iff.1 Tryz.sizeBuilder
  go_enter Tryz.func208, Tryz.ntmps208
  go_wp2
  rw [Lib.run_to_unsafe w ⟨b, 0, none⟩ Tryz.underlying190 Tryz.underlying354 hj (by rw [hjs]; decide) hsh (Nat.zero_lt_succ 2)]
  simp only [Result.andThen]
  rw [Oper.upon_value]
  go_wp2
  rw [run_callFunc_extern Tryz.func262 (by kernel_rfl) (by kernel_rfl) (by kernel_rfl) (e := Extern.AbiNoEscape.same) (by kernel_rfl)]
  rw [Lib.run_noEscape]
  simp only [Result.andThen]
  rw [Oper.upon_value]
  go_wp2
  rw [Lib.run_from_unsafe w ⟨b, 0, none⟩ Tryz.underlying354 Tryz.underlying190 hj hsh Tryz.liesBuilder]
  simp only [Result.andThen]
  rw [Oper.upon_value]
  go_wp2
  go_end0
  exact ⟨rfl, rfl⟩
theorem pcheck_any (B b : Nat) (ln : Bool) (bs : List UInt8) (w : World) (h : Pr w B b ln bs) :
    Calls Tryz.prog 208 #[.pointer (some ⟨b, 0, none⟩)] w fun e w' => e = .returned (.tuple #[]) ∧ PrAt w' B b ln (.pointer (some ⟨b, 0, none⟩)) bs ∧ PrKept B b w w' := by
  rcases h with h | h
  · have h1 := h
    obtain ⟨hB, v, hb, _⟩ := h1
    refine (pcheck_fresh b w (by rw [Lib.cell_of_heap hb]; rfl) (by simp [World.shape?, hb]) (by simp [World.frozen?, hb])).mono ?_
    rintro e w' ⟨rfl, rfl⟩
    exact ⟨rfl, h.used _, (Below.refl B w).setCell (p := ⟨b, 0, none⟩) hB _, (Lib.OthersKept.refl _ _ w).setCell ⟨b, 0, none⟩ rfl _⟩
  · have h1 := h
    obtain ⟨hB, v, hb, _⟩ := h1
    refine (pcheck_used b w (by rw [Lib.cell_of_heap hb]; rfl)).mono ?_
    rintro e w' ⟨rfl, rfl⟩
    exact ⟨rfl, h, PrKept.refl _ _ _⟩
def WrotePost (B b : Nat) (ln : Bool) (bs : List UInt8) (w w' : World) : Prop := Pr w' B b ln bs ∧ PrKept B b w w'
set_option maxHeartbeats 2000000 in
set_option maxRecDepth 100000 in
theorem wbyte_any (B b : Nat) (ln : Bool) (bs : List UInt8) (c : UInt8) (n : Int) (w : World) (hn : n = (c.toNat : Int)) (h : Pr w B b ln bs) (hlen : bs.length + 1 ≤ 140737488355328) :
    Calls Tryz.prog 151 #[.pointer (some ⟨b, 0, none⟩), .int .u8 n] w fun e w' => e = .returned .nilIface ∧ WrotePost B b ln (bs ++ [c]) w w' := by
  obtain ⟨i0, hi0, hz0, hz1, hz2⟩ := info_parts Tryz.infoByte
  have HP := Lib.hid (pcheck_any B b ln bs w h)
  have hlt := h.lt
  have hle := h.le
  have HN := Lib.hid hn
  clear h hn
  go_enter Tryz.func151, Tryz.ntmps151
  go_wp2_with fail
  refine HP.out.mono ?_
  rintro e w1 ⟨rfl, ⟨hB, v, hbk, hown, hne⟩, hk1⟩
  have hz1' := hk1.1.size
  have c1 : w1.cell? ⟨b, 1, none⟩ = some v := by rw [Lib.cell_of_heap hbk]; rfl
  go_wp2_with (at_builtin; refine wpList_append_own _ rfl (.tmp 11) (.tmp 13) 23 rfl B 5 i0 _ 1 1 Tryz.underlying23 hi0 hz0 hz1 hz2 rfl (by omega) v bs.length _ rfl (World.ownsRow.alloc hown _) ⟨w1.heap.size, 0, none⟩ 1 1 [_] rfl rfl (news_at rfl) (one_of1 rfl) (by unfold maxLen; omega) (by omega) (by simp; omega) ?_; intro v2 w2 hown2 hg2 _; refine Hid.out ?_)
  have hbk1 : (w1.alloc (.cells #[.int .u8 n] 5)).heap[b]? = some (.cells #[.pointer (some ⟨b, 0, none⟩), v, .bool ln] 194 (0, 0)) := (heap_alloc_old _ _ (by omega)).trans hbk
  have hb2 : w2.heap[b]? = some (.cells #[.pointer (some ⟨b, 0, none⟩), v, .bool ln] 194 (0, 0)) := (hg2.block b (by simp; omega) (fun e => hne e.symm)).trans hbk1
  have d1 : w2.cell? ⟨b, 1, none⟩ = some v := by rw [Lib.cell_of_heap hb2]; rfl
  have f1 : w2.frozen? ⟨b, 1, none⟩ = false := by simp [World.frozen?, hb2]
  have hfin : PrAt (w2.setCell ⟨b, 1, none⟩ v2) B b ln (.pointer (some ⟨b, 0, none⟩)) (bs ++ [c]) := PrAt.put hbk1 hB hne hg2 (OwnB.snoc HN.out hown2)
  have hkf : PrKept B b w (w2.setCell ⟨b, 1, none⟩ v2) := ⟨hk1.1.trans ((grown_below hown (by omega) hg2).setCell (p := ⟨b, 1, none⟩) hB _), hk1.2.trans ((((Lib.OthersKept.refl _ _ w1).alloc _).grown hg2 (by
    intro g hg
    obtain ⟨c, fz, hc⟩ := own_kind_row hown g hg
    exact ⟨c, fz, (heap_alloc_old _ _ (Array.getElem?_eq_some_iff.1 hc).1).trans hc⟩)).setCell ⟨b, 1, none⟩ rfl _)⟩
  have HF := Lib.hid hfin
  have HK := Lib.hid hkf
  obtain ⟨ao, n', cap, rfl⟩ : ∃ ao n' cap, v2 = .slice ao n' cap := by
    rcases hown2.2 with ⟨hv, _⟩ | ⟨g, cap, cur, hv, _⟩
    · exact ⟨_, _, _, hv⟩
    · exact ⟨_, _, _, hv⟩
  clear hfin hkf hbk1 hg2 hown2 hown hbk hk1 hb2 c1
  refine Lib.hid ?_
  go_wp2
  go_ret
  exact ⟨rfl, .inr HF.out, HK.out⟩
set_option maxHeartbeats 2000000 in
set_option maxRecDepth 100000 in
theorem wstring_any (B b : Nat) (ln : Bool) (bs : List UInt8) (t : ByteArray) (w : World) (h : Pr w B b ln bs) (hlen : bs.length + t.size ≤ 140737488355328) :
    Calls Tryz.prog 148 #[.pointer (some ⟨b, 0, none⟩), .string t] w fun e w' => e = .returned (.tuple #[.int .i64 t.size, .nilIface]) ∧ WrotePost B b ln (bs ++ t.data.toList) w w' := by
  obtain ⟨i0, hi0, hz0, hz1, hz2⟩ := info_parts Tryz.infoByte
  have HP := Lib.hid (pcheck_any B b ln bs w h)
  have hlt := h.lt
  have hle := h.le
  clear h
  go_enter Tryz.func148, Tryz.ntmps148
  go_wp2_with fail
  refine HP.out.mono ?_
  rintro e w1 ⟨rfl, ⟨hB, v, hbk, hown, hne⟩, hk1⟩
  have hz1' := hk1.1.size
  have c1 : w1.cell? ⟨b, 1, none⟩ = some v := by rw [Lib.cell_of_heap hbk]; rfl
  go_wp2_with (at_builtin; refine Lib.wpList_append_own_string _ rfl (.tmp 12) (.tmp 13) 23 9 rfl B 5 i0 Tryz.underlying23 Tryz.underlying9 hi0 hz0 hz1 hz2 v bs.length _ rfl hown t rfl (by unfold maxLen; omega) (by omega) (by omega) ?_; intro v2 w2 hown2 hg2 _; refine Hid.out ?_)
  have hb2 : w2.heap[b]? = some (.cells #[.pointer (some ⟨b, 0, none⟩), v, .bool ln] 194 (0, 0)) := (hg2.block b (by omega) (fun e => hne e.symm)).trans hbk
  have d1 : w2.cell? ⟨b, 1, none⟩ = some v := by rw [Lib.cell_of_heap hb2]; rfl
  have f1 : w2.frozen? ⟨b, 1, none⟩ = false := by simp [World.frozen?, hb2]
  have ho3 : OwnB w2 B v2 (bs ++ t.data.toList) := by
    unfold OwnB
    rw [Lib.byteCells_append, List.length_append]
    have : t.data.toList.length = t.size := by simp
    rw [this]
    exact hown2
  have hfin : PrAt (w2.setCell ⟨b, 1, none⟩ v2) B b ln (.pointer (some ⟨b, 0, none⟩)) (bs ++ t.data.toList) := PrAt.put hbk hB hne hg2 ho3
  have hkf : PrKept B b w (w2.setCell ⟨b, 1, none⟩ v2) := ⟨hk1.1.trans ((((Below.refl B w1).grown hg2 (by omega) (fun j hj => (World.ownsRow.lt hown j hj).1))).setCell (p := ⟨b, 1, none⟩) hB _), hk1.2.trans ((((Lib.OthersKept.refl _ _ w1)).grown hg2 (own_kind_row hown)).setCell ⟨b, 1, none⟩ rfl _)⟩
  have HF := Lib.hid hfin
  have HK := Lib.hid hkf
  obtain ⟨ao, n', cap, rfl⟩ : ∃ ao n' cap, v2 = .slice ao n' cap := by
    rcases hown2.2 with ⟨hv, _⟩ | ⟨g, cap, cur, hv, _⟩
    · exact ⟨_, _, _, hv⟩
    · exact ⟨_, _, _, hv⟩
  clear hfin hkf ho3 hg2 hown2 hown hbk hk1 hb2 c1
  refine Lib.hid ?_
  go_wp2
  go_ret2
  exact ⟨rfl, .inr HF.out, HK.out⟩
theorem Tryz.cellsByte : Tryz.prog.cellsOf 5 = 1 := by kernel_rfl
set_option maxHeartbeats 2000000 in
set_option maxRecDepth 100000 in
theorem pstring_any (B b : Nat) (ln : Bool) (l : List UInt8) (w : World) (h : Pr w B b ln l) (h0 : l ≠ []) :
    Calls Tryz.prog 100 #[.pointer (some ⟨b, 0, none⟩)] w fun e w' => e = .returned (.string ⟨l.toArray⟩) ∧ Below B w w' := by
  obtain ⟨p, hB, v, hbk, hown, hne⟩ : ∃ p, PrAt w B b ln p l := by
    rcases h with h | h
    · exact ⟨_, h⟩
    · exact ⟨_, h⟩
  have hl0 : l.length ≠ 0 := by simpa using h0
  obtain ⟨g, cap, cur, rfl, hbg, hg, hnc, hcm, hcs, htake⟩ : ∃ g cap cur, v = .slice (some ⟨g, 0, none⟩) l.length cap ∧ B ≤ g ∧ w.heap[g]? = some (.cells cur 5 (0, 0)) ∧ l.length ≤ cap ∧ cap ≤ maxLen ∧ cur.size = cap * 1 ∧ cur.toList.take (l.length * 1) = Lib.byteCells l := by
    rcases hown.2 with ⟨_, hz⟩ | ⟨g, cap, cur, hv, r⟩
    · exact absurd hz hl0
    · exact ⟨g, cap, cur, hv, r⟩
  have c1 : w.drew.cell? ⟨b, 1, none⟩ = some (.slice (some ⟨g, 0, none⟩) l.length cap) := by
    have : w.drew.heap[b]? = some (.cells #[p, .slice (some ⟨g, 0, none⟩) l.length cap, .bool ln] 194 (0, 0)) := hbk
    rw [Lib.cell_of_heap this]; rfl
  have hSD : (Builtin.unsafeSliceData_ #[23] 266 #[.slice (some ⟨g, 0, none⟩) l.length cap]).run Tryz.prog w.drew = .ok (.pointer (some ⟨g, 0, none⟩)) w.drew :=
    Lib.run_unsafeSliceData_row _ _ _ _ _ _ (by omega)
  have hUS : (Builtin.unsafeString_ #[266, 3] 9 #[.pointer (some ⟨g, 0, none⟩), .int .i64 l.length]).run Tryz.prog w.drew = .ok (.string ⟨l.toArray⟩) (w.drew.freeze ⟨g, 0, none⟩ l.length) := by
    refine Lib.run_unsafeString_row w.drew 266 3 9 5 Tryz.underlying266 Tryz.cellsByte g cur.size (by have hg' : w.drew.heap[g]? = some (.cells cur 5 (0, 0)) := hg; simp [World.shape?, hg']) l h0 (by omega) (by unfold maxLen at hcm; omega) ?_
    intro j x hx
    have := World.ownsRow.cells hown (g := g) rfl j (.int .u8 x.toNat) (by simp [Lib.byteCells, hx])
    exact this
  clear hown hbk h
  go_enter Tryz.func100, Tryz.ntmps100
  go_wp2
  go_region
  all_goals (go_wp2; go_ret; exact ⟨rfl, Lib.below_freeze (Below.drew (Below.refl B w)) (p := ⟨g, 0, none⟩) hbg _⟩)
end Go.Proofs.YtobpkelblpdajaaGreatDoor
/- The text of numbers, floats, strings and bytes: plain functions and their laws; no program in sight. -/
namespace Go.Proofs.YtobpkelblpdajaaGreatDoor
open Go
def hexc (n : Nat) : UInt8 := UInt8.ofNat (if n < 10 then 48 + n else 87 + n)
def escB (c : UInt8) : List UInt8 :=
  if c = 34 ∨ c = 92 then [92, c] else if c = 10 then [92, 110] else if c = 9 then [92, 116] else if c = 13 then [92, 114]
  else if c.toNat < 32 ∨ 126 < c.toNat then [92, 120, hexc (c.toNat / 16), hexc (c.toNat % 16)] else [c]
def quoteB (l : List UInt8) : List UInt8 := 34 :: (l.flatMap escB ++ [34])
def hexB (l : List UInt8) : List UInt8 := 35 :: l.flatMap fun c => [hexc (c.toNat / 16), hexc (c.toNat % 16)]
/- So many digits to the base 16. -/
def hexN : Nat → Nat → List UInt8
  | 0, _ => []
  | k + 1, n => hexc (n / 16 ^ k % 16) :: hexN k n
/- The digits of a fraction of so many digits, without the zeros at its end. -/
def fracD : Nat → Nat → List UInt8
  | 0, _ => []
  | k + 1, F => if F = 0 then [] else hexc (F / 16 ^ k) :: fracD k (F % 16 ^ k)
def fracT (F : Nat) : List UInt8 := if F = 0 then [] else 46 :: fracD 13 F
def expT (e : Int) : List UInt8 := (if e < 0 then 45 else 43) :: ((if e.natAbs < 10 then [48] else []) ++ Lib.decDigits e.natAbs)
/- A fraction below 1 is doubled till it is none. -/
def normF : Nat → Nat → Int → Nat × Int
  | 0, m, e => (m, e)
  | k + 1, m, e => if m < 4503599627370496 then normF k (2 * m) (e - 1) else (m, e)
def bodyT (e m : Nat) : List UInt8 :=
  if e = 0 ∧ m = 0 then [48, 112, 43, 48, 48]
  else
    let r : Nat × Int := if e = 0 then normF 52 m 1 else (m + 4503599627370496, (e : Int))
    49 :: (fracT (r.1 - 4503599627370496) ++ 112 :: expT (r.2 - 1023))
def fltT (b : Nat) : List UInt8 :=
  if b / 4503599627370496 % 2048 = 2047 then
    if b % 4503599627370496 = 0 then (if 9223372036854775808 ≤ b then 45 else 43) :: [105, 110, 102]
    else [110, 97, 110, 40] ++ (hexN 16 b ++ [41])
  else (if 9223372036854775808 ≤ b then [45] else []) ++ (48 :: 120 :: bodyT (b / 4503599627370496 % 2048) (b % 4503599627370496))
theorem hexN_length (k n : Nat) : (hexN k n).length = k := by
  induction k with
  | zero => rfl
  | succ k ih => simp [hexN, ih]
/- The zeros at the end taken off. -/
theorem fracD_zero (k : Nat) : fracD k 0 = [] := by cases k <;> simp [fracD]
end Go.Proofs.YtobpkelblpdajaaGreatDoor
