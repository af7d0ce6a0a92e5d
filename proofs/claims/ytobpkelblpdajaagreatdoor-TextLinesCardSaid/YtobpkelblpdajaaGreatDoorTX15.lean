/- Walk: the text of a string. -/
import Derived.Test.YtobpkelblpdajaaGreatDoorTX14
import Derived.Lib.ConvBytes
import Derived.Laws.IdiomStrings
import Derived.Laws.BytesArg
import Derived.Laws.OwnMore
import Derived.Deep.LoopGhost
import Derived.WalkMore
import Derived.Lib.SmallJoins
set_option linter.unusedVariables false
set_option linter.unusedSimpArgs false
set_option linter.unusedSectionVars false
namespace Go.Proofs.YtobpkelblpdajaaGreatDoor
open Go Go.RowKit
def escTab : List Int := [34, 34, 92, 92, 10, 110, 9, 116, 13, 114]
def Esc (w : World) : Prop := 1 < w.heap.size ∧ ∀ (j : Nat) (x : Int), escTab[j]? = some x → w.cell? ⟨1, j, none⟩ = some (.int .u8 x)
theorem Esc.below {w w' : World} {B : Nat} (h : Esc w) (hb : Below B w w') (hB : 1 < B) : Esc w' := ⟨Nat.lt_of_lt_of_le h.1 hb.size, fun j x hj => (hb.cell (p := ⟨1, j, none⟩) hB).trans (h.2 j x hj)⟩
theorem conv_own {W : World} {B g cap n : Nat} {l : List UInt8} (hn : n = l.length) (h : OwnB W B (.slice (some ⟨g, 0, none⟩) n cap) l) : (convert 23 9 (.slice (some ⟨g, 0, none⟩) n cap)).run Tryz.prog W = .ok (.string ⟨l.toArray⟩) W := by
  subst hn
  refine run_convert_bytes_back W 23 9 5 ⟨g, 0, none⟩ cap l Tryz.underlying23 Tryz.underlying5 Tryz.underlying9 (fun j hj => ?_)
  exact World.ownsRow.cells h (g := g) rfl j _ (by simp [Lib.byteCells, hj])
/- What an append of bytes leaves of a row in a block of its own. -/
structure OwnG (w : World) (B g : Nat) (v : Value) (l : List UInt8) : Prop where
  own : OwnB w B v l
  at_ : ∃ cap, v = .slice (some ⟨g, 0, none⟩) l.length cap
theorem OwnG.snoc {w2 : World} {B g2 cap : Nat} {l m : List UInt8} {news : List Value} (hn : news = Lib.byteCells m) (h : w2.ownsRow B 5 1 (.slice (some ⟨g2, 0, none⟩) (l.length + m.length) cap) (l.length + m.length) (Lib.byteCells l ++ news)) : OwnG w2 B g2 (.slice (some ⟨g2, 0, none⟩) (l.length + m.length) cap) (l ++ m) := by
  subst hn
  refine ⟨?_, cap, by rw [List.length_append]⟩
  unfold OwnB
  rw [Lib.byteCells_append, List.length_append]
  exact h
theorem escB_len (c : UInt8) : (escB c).length ≤ 4 := by unfold escB; split <;> (try split) <;> (try split) <;> (try split) <;> (try split) <;> simp
theorem flat_len (l : List UInt8) : (l.flatMap escB).length ≤ 4 * l.length := by
  induction l with
  | nil => simp
  | cons c r ih => rw [List.flatMap_cons, List.length_append, List.length_cons]; have := escB_len c; omega
def QPost (t : ByteArray) (w : World) (e : Ending) (w' : World) : Prop := e = .returned (.string ⟨(quoteB t.data.toList).toArray⟩) ∧ Below w.heap.size w w'
def QRel (t : ByteArray) (w : World) (g k : Nat) (v : Value) (wr : World) : Prop := ∃ gg, k + g = t.size ∧ OwnG wr w.heap.size gg v (34 :: (t.data.toList.take k).flatMap escB) ∧ gg ≠ w.heap.size + 1 ∧ w.heap.size + 1 < wr.heap.size ∧ Below w.heap.size w wr ∧ ∀ j, j < t.size → wr.cell? ⟨w.heap.size + 1, j, none⟩ = some (.int .u8 (t.data.toList.getD j 0).toNat)
theorem QRel.alloc {t : ByteArray} {w wr : World} {g k : Nat} {v : Value} (h : QRel t w g k v wr) (o : Obj) : QRel t w g k v (wr.alloc o) := by
  obtain ⟨gg, h1, ⟨h2, h2b⟩, h3, h4, h5, h6⟩ := h
  have hb : Below wr.heap.size wr (wr.alloc o) := (Below.refl _ _).alloc (Nat.le_refl _) _
  exact ⟨gg, h1, ⟨World.ownsRow.alloc h2 _, h2b⟩, h3, by simp; omega, h5.trans (hb.mono h5.size), fun j hj => (hb.cell (p := ⟨w.heap.size + 1, j, none⟩) h4).trans (h6 j hj)⟩
theorem take_flat {t : ByteArray} {k : Nat} {c : UInt8} (hk : t.data.toList[k]? = some c) : 34 :: (t.data.toList.take (k + 1)).flatMap escB = (34 :: (t.data.toList.take k).flatMap escB) ++ escB c := by
  rw [List.take_add_one, hk]; simp
theorem QRel.step {t : ByteArray} {w wr w2 : World} {g k gg g2 cap cap2 H : Nat} {c : UInt8} {news : List Value} {l m : List UInt8} (hl : l = 34 :: (t.data.toList.take k).flatMap escB) (hm : m = escB c) (hk : t.data.toList[k]? = some c) (hkg : k + (g + 1) = t.size)
    (hown : OwnB wr w.heap.size (.slice (some ⟨gg, 0, none⟩) l.length cap) l) (hgg : gg ≠ w.heap.size + 1) (hlt : w.heap.size + 1 < wr.heap.size) (hb : Below w.heap.size w wr)
    (hc : ∀ j, j < t.size → wr.cell? ⟨w.heap.size + 1, j, none⟩ = some (.int .u8 (t.data.toList.getD j 0).toNat)) (hn : news = Lib.byteCells m)
    (h2 : w2.ownsRow w.heap.size 5 1 (.slice (some ⟨g2, 0, none⟩) (l.length + m.length) cap2) (l.length + m.length) (Lib.byteCells l ++ news)) (hg : wr.grownBy w2 (some gg)) (hat : some gg = some g2 ∨ g2 = H) (hH : wr.heap.size = H) :
    QRel t w g (k + 1) (.slice (some ⟨g2, 0, none⟩) (l.length + m.length) cap2) w2 := by
  have hG := OwnG.snoc hn h2
  subst hl
  subst hm
  rw [← take_flat hk] at hG
  refine ⟨g2, by omega, hG, ?_, Nat.lt_of_lt_of_le hlt hg.size, hb.grown hg hb.size (fun j hj => ?_), fun j hj => ?_⟩
  · rcases hat with h | h
    · injection h with h; omega
    · omega
  · injection hj with hj; subst hj; exact (World.ownsRow.lt hown _ rfl).1
  · exact (World.cell?_of_block (a := ⟨w.heap.size + 1, j, none⟩) (hg.block _ hlt (fun e => hgg (Option.some.inj e).symm))).trans (hc j hj)
def escK : List Nat := [34, 92, 10, 9, 13]
theorem esc_hit {c : UInt8} {x y : Nat} (h : (x, y) ∈ [(34, 34), (92, 92), (10, 110), (9, 116), (13, 114)]) (hx : (c.toNat : Int) = x) : escB c = [92, UInt8.ofNat y] := by
  have hc : c = UInt8.ofNat x := by
    apply UInt8.toNat_inj.1
    have : x < 256 := by simp at h; omega
    rw [UInt8.toNat_ofNat']; omega
  simp at h
  rcases h with ⟨rfl, rfl⟩ | ⟨rfl, rfl⟩ | ⟨rfl, rfl⟩ | ⟨rfl, rfl⟩ | ⟨rfl, rfl⟩ <;> subst hc <;> rfl
theorem esc_none {c : UInt8} (h : ∀ x ∈ escK, (c.toNat : Int) ≠ x) : escB c = if c.toNat < 32 ∨ 126 < c.toNat then [92, 120, hexc (c.toNat / 16), hexc (c.toNat % 16)] else [c] := by
  have h1 : ∀ x : UInt8, x.toNat ∈ escK → c ≠ x := fun x hx e => h _ hx (by rw [e])
  unfold escB
  rw [if_neg (fun e => e.elim (h1 34 (by decide)) (h1 92 (by decide))), if_neg (h1 10 (by decide)), if_neg (h1 9 (by decide)), if_neg (h1 13 (by decide))]
theorem hex_at (w : World) (n : Nat) (h : n < 16) : (Instr.index 9 (.string ⟨#[48, 49, 50, 51, 52, 53, 54, 55, 56, 57, 97, 98, 99, 100, 101, 102]⟩) (.int .u8 n)).run Tryz.prog w = .ok (.int .u8 (hexc n).toNat) w := by
  have h2 : n = 0 ∨ n = 1 ∨ n = 2 ∨ n = 3 ∨ n = 4 ∨ n = 5 ∨ n = 6 ∨ n = 7 ∨ n = 8 ∨ n = 9 ∨ n = 10 ∨ n = 11 ∨ n = 12 ∨ n = 13 ∨ n = 14 ∨ n = 15 := by omega
  rcases h2 with rfl | rfl | rfl | rfl | rfl | rfl | rfl | rfl | rfl | rfl | rfl | rfl | rfl | rfl | rfl | rfl <;> (simp [go_sem, hexc]; rfl)
theorem esc_at0 (w : World) : (Instr.index 239 (.agg #[.int .u8 34, .int .u8 34, .int .u8 92, .int .u8 92, .int .u8 10, .int .u8 110, .int .u8 9, .int .u8 116, .int .u8 13, .int .u8 114]) (.int .i64 0)).run Tryz.prog w = .ok (.agg #[.int .u8 34, .int .u8 34]) w := by kernel_rfl
theorem esc_at1 (w : World) : (Instr.index 239 (.agg #[.int .u8 34, .int .u8 34, .int .u8 92, .int .u8 92, .int .u8 10, .int .u8 110, .int .u8 9, .int .u8 116, .int .u8 13, .int .u8 114]) (.int .i64 1)).run Tryz.prog w = .ok (.agg #[.int .u8 92, .int .u8 92]) w := by kernel_rfl
theorem esc_at2 (w : World) : (Instr.index 239 (.agg #[.int .u8 34, .int .u8 34, .int .u8 92, .int .u8 92, .int .u8 10, .int .u8 110, .int .u8 9, .int .u8 116, .int .u8 13, .int .u8 114]) (.int .i64 2)).run Tryz.prog w = .ok (.agg #[.int .u8 10, .int .u8 110]) w := by kernel_rfl
theorem esc_at3 (w : World) : (Instr.index 239 (.agg #[.int .u8 34, .int .u8 34, .int .u8 92, .int .u8 92, .int .u8 10, .int .u8 110, .int .u8 9, .int .u8 116, .int .u8 13, .int .u8 114]) (.int .i64 3)).run Tryz.prog w = .ok (.agg #[.int .u8 9, .int .u8 116]) w := by kernel_rfl
theorem esc_at4 (w : World) : (Instr.index 239 (.agg #[.int .u8 34, .int .u8 34, .int .u8 92, .int .u8 92, .int .u8 10, .int .u8 110, .int .u8 9, .int .u8 116, .int .u8 13, .int .u8 114]) (.int .i64 4)).run Tryz.prog w = .ok (.agg #[.int .u8 13, .int .u8 114]) w := by kernel_rfl
theorem one_four {a b c d : Int} : ∀ u ∈ [Value.int .u8 a, .int .u8 b, .int .u8 c, .int .u8 d], u.oneCell' = true := by
  intro u hu; simp at hu; rcases hu with rfl | rfl | rfl | rfl <;> rfl
theorem and15 : ∀ c : Fin 256, bits .and .u8 (c.val : Int) 15 = ((c.val % 16 : Nat) : Int) := by decide +kernel
theorem hex_hi (w : World) {n : Int} {c : UInt8} (hn : n = (c.toNat : Int)) : (Instr.index 9 (.string ⟨#[48, 49, 50, 51, 52, 53, 54, 55, 56, 57, 97, 98, 99, 100, 101, 102]⟩) (.int .u8 (n / 16))).run Tryz.prog w = .ok (.int .u8 (hexc (c.toNat / 16)).toNat) w := by
  have := c.toNat_lt
  have h : n / 16 = ((c.toNat / 16 : Nat) : Int) := by omega
  rw [h]
  exact hex_at w _ (by omega)
theorem hex_lo (w : World) {n : Int} {c : UInt8} (hn : n = (c.toNat : Int)) : (Instr.index 9 (.string ⟨#[48, 49, 50, 51, 52, 53, 54, 55, 56, 57, 97, 98, 99, 100, 101, 102]⟩) (.int .u8 (bits .and .u8 n 15))).run Tryz.prog w = .ok (.int .u8 (hexc (c.toNat % 16)).toNat) w := by
  rw [hn, and15 ⟨c.toNat, c.toNat_lt⟩]
  exact hex_at w _ (by omega)
set_option maxRecDepth 100000 in
set_option maxHeartbeats 4000000 in
theorem quote_any (t : ByteArray) (w : World) (hE : Esc w) (hl : t.size ≤ 34359738368) : Calls Tryz.prog 73 #[.string t] w (QPost t w) := by
  obtain ⟨i0, hi0, hz0, hz1, hz2⟩ := info_parts Tryz.infoByte
  have kc := fun (W : World) => Lib.run_convert_string_bytes (P := Tryz.prog) W 9 23 5 t Tryz.underlying9 Tryz.underlying23 Tryz.underlying5
  have HE := Lib.hid hE
  clear hE
  go_enter Tryz.func73, Tryz.ntmps73
  go_wp2
  go_step3
  go_wp2
  go_step3
  go_wp2
  clear kc
  go_loopg [3, 12] t.size (fun g v i wr => ∃ k : Nat, i = .int .i64 k ∧ QRel t w g k v wr)
  case atStart =>
    have hb0 : Below w.heap.size w (w.alloc (.cells #[.int .u8 34] 5)) := (Below.refl _ _).alloc (Nat.le_refl _) _
    refine ⟨0, rfl, w.heap.size, by omega, ⟨World.ownsRow.kept (World.ownsRow_lit w #[.int .u8 34] 1 (Nat.le_refl _) (by decide) rfl) (row := none) ⟨rfl, rfl, rfl, by rw [Lib.bytesWorld_size]; simp, fun k hk _ => Lib.bytesWorld_at_old _ _ _ _ hk⟩ (.inr (by simp [Value.ownBlock])), 1, rfl⟩, by omega, by rw [Lib.bytesWorld_size]; simp, hb0.trans ((bytes_below (w.alloc (.cells #[.int .u8 34] 5)) 5 t).mono (by simp)), fun j hj => by have := Lib.bytesWorld_cell (w.alloc (.cells #[.int .u8 34] 5)) 5 t j hj; simpa using this⟩
  case round =>
    obtain ⟨k, rfl, hq⟩ := hrel
    cases gk with
    | zero =>
      obtain ⟨gg, hkg, ⟨hown, cap, rfl⟩, hgg, hlt, hb, hc⟩ := hq
      have hk : ¬ ((k : Int) < (t.size : Int)) := by omega
      have hfl := flat_len (t.data.toList.take k)
      have htk : (t.data.toList.take k).length ≤ t.size := by rw [List.length_take]; simp; omega
      have hn : (34 :: (t.data.toList.take k).flatMap escB).length ≤ 137438953473 := by rw [List.length_cons]; omega
      have HT : Hid (quoteB t.data.toList = (34 :: (t.data.toList.take k).flatMap escB) ++ [34]) := Lib.hid (by rw [List.take_of_length_le (by simp; omega)]; rfl)
      generalize 34 :: (t.data.toList.take k).flatMap escB = l at *
      have hsz := hb.size
      clear hc hfl htk
      go_wp2_with (at_builtin; refine wpList_append_lies _ rfl (.tmp 50) (.tmp 51) 23 rfl w.heap.size 5 i0 _ 1 1 Tryz.underlying23 hi0 hz0 hz1 hz2 rfl (by omega) (.slice (some ⟨gg, 0, none⟩) l.length cap) l.length _ rfl (World.ownsRow.alloc hown _) ⟨wr.heap.size, 0, none⟩ 1 1 [_] rfl rfl (news_at rfl) (one_of1 rfl) (by omega) (by unfold maxLen; omega) (by omega) (by simp; omega) _ rfl ?_; intro g2 cap2 w2 hown2 hg2 hat hlt2; refine Hid.out ?_)
      have hcv2 : (convert 23 9 (.slice (some ⟨g2, 0, none⟩) (l.length + 1) cap2)).run Tryz.prog w2 = .ok (.string ⟨(l ++ [34]).toArray⟩) w2 := conv_own (by simp) (OwnG.snoc (l := l) (m := [34]) rfl hown2).own
      have HB : Hid (Below w.heap.size w w2) := Lib.hid ((hb.alloc hb.size _).grown hg2 (by simp; omega) (fun j hj => (World.ownsRow.lt hown j hj).1))
      have HL : Hid (l ++ [34] = quoteB t.data.toList) := Lib.hid HT.out.symm
      clear hown2 hg2 hat hown hb
      generalize l ++ [34] = l2 at *
      refine Lib.hid ?_
      go_wp2
      first | rw [Exit.noGoto_ret] | skip
      go_ret
      exact ⟨by rw [HL.out]; rfl, HB.out⟩
    | succ g =>
      have hk : (k : Int) < (t.size : Int) := by obtain ⟨_, h, _⟩ := hq; omega
      obtain ⟨c, hck⟩ : ∃ c, t.data.toList[k]? = some c := ⟨_, List.getElem?_eq_getElem (by simp; omega)⟩
      have hcell : wr.cell? ⟨w.heap.size + 1, k, none⟩ = some (.int .u8 c.toNat) := by
        obtain ⟨_, _, _, _, _, _, h⟩ := hq
        rw [h k (by omega), List.getD, hck]; rfl
      have hEw : Esc wr := by
        obtain ⟨_, _, _, _, _, h, _⟩ := hq
        exact HE.out.below h HE.out.1
      obtain ⟨n, hn⟩ : ∃ n : Int, n = (c.toNat : Int) := ⟨_, rfl⟩
      have h0 : 0 ≤ n := by omega
      have h256 : n < 256 := by have := c.toNat_lt; omega
      rw [← hn] at hcell
      have HN := Lib.hid hn
      have HK := Lib.hid hck
      clear hn hck
      have e0 := hEw.2 0 34 rfl
      have e1 := hEw.2 1 34 rfl
      have e2 := hEw.2 2 92 rfl
      have e3 := hEw.2 3 92 rfl
      have e4 := hEw.2 4 10 rfl
      have e5 := hEw.2 5 110 rfl
      have e6 := hEw.2 6 9 rfl
      have e7 := hEw.2 7 116 rfl
      have e8 := hEw.2 8 13 rfl
      have e9 := hEw.2 9 114 rfl
      have HQ := Lib.hid hq
      clear hq hEw
      go_wp2_with fail
      clear hcell e0 e1 e2 e3 e4 e5 e6 e7 e8 e9
      obtain ⟨wo, hwo⟩ : ∃ wo : World, wo = wr := ⟨_, rfl⟩
      subst hwo
      go_loopg [3, 17] 5 (fun g2 v j wr2 => ∃ m : Nat, j = .int .i64 m ∧ m + g2 = 5 ∧ Hid (∀ (i x : Nat), i < m → escK[i]? = some x → n ≠ x) ∧ QRel t w (g + 1) k v wr2)
      case atStart => exact ⟨0, rfl, by omega, Lib.hid (fun i x h => by omega), HQ.out⟩
      case round =>
        obtain ⟨m, rfl, hm, HM, hq2⟩ := hrel
        cases gk with
        | zero =>
          obtain rfl : m = 5 := by omega
          have HS : Hid (escB c = if c.toNat < 32 ∨ 126 < c.toNat then [92, 120, hexc (c.toNat / 16), hexc (c.toNat % 16)] else [c]) := Lib.hid (esc_none (fun x hx => by rw [← HN.out]; obtain ⟨i, hi, rfl⟩ := List.getElem_of_mem hx; exact HM.out i _ (by simpa [escK] using hi) (List.getElem?_eq_getElem hi)))
          clear HM
          obtain ⟨gg, hkg, ⟨hown, cap, rfl⟩, hgg, hlt, hb, hc⟩ := hq2
          have hfl := flat_len (t.data.toList.take k)
          have htk : (t.data.toList.take k).length ≤ t.size := by rw [List.length_take]; simp; omega
          have hn5 : (34 :: (t.data.toList.take k).flatMap escB).length ≤ 137438953473 := by rw [List.length_cons]; omega
          obtain ⟨l, hl5⟩ : ∃ l, l = 34 :: (t.data.toList.take k).flatMap escB := ⟨_, rfl⟩
          rw [← hl5] at hown hn5 ⊢
          have HL := Lib.hid hl5
          clear hl5 hfl htk
          have hsz := hb.size
          have HC := Lib.hid hc
          clear hc
          by_cases hlo : n < 32
          · have HS2 : Hid ([92, 120, hexc (c.toNat / 16), hexc (c.toNat % 16)] = escB c) := Lib.hid (by rw [HS.out, if_pos (by rw [← Int.ofNat_lt, ← Int.ofNat_lt, ← HN.out]; omega)])
            clear HS
            have k1 := fun (W : World) => hex_hi W HN.out
            have k2 := fun (W : World) => hex_lo W HN.out
            go_wp2_with fail
            refine wp_region_heldS (fun _ => True) 7 (by kernel_rfl) (by kernel_rfl) (fun _ _ _ _ _ h => h) ?_ ?_
            · ((trivial))
            simp only [List.take_succ_cons, List.take_zero]
            repeat (refine HdS.step (fun K hK => ?_); go_simp; first | (refine hK _ ?_; clear hK K) | (apply Exists.intro; refine ⟨fun W hW => ?_, hK _ ?_⟩; (first | (intros; rfl) | ((rfl))); clear hK K))
            refine HdS.nil ?_
            simp only [List.drop_succ_cons, List.drop_zero]
            refine SeqS.step (fun K hK => ?_)
            go_simp
            refine hK _ _ trivial ?_
            clear hK K
            refine SeqS.step (fun K hK => ?_)
            refine wp_append_lies _ (.tmp 36) (.tmp 43) 23 rfl w.heap.size 5 i0 _ 1 1 Tryz.underlying23 hi0 hz0 hz1 hz2 rfl (by omega) (.slice (some ⟨gg, 0, none⟩) l.length cap) l.length _ rfl (World.ownsRow.drew (World.ownsRow.alloc hown _)) ⟨wr.heap.size, 0, none⟩ 4 4 [_, _, _, _] rfl rfl (news_at rfl) one_four (by omega) (by unfold maxLen; omega) (by omega) (by simp; omega) _ rfl ?_
            intro g3 cap3 w3 hown3 hg3 hat hlt3
            refine hK _ _ trivial ?_
            clear hK K
            refine SeqS.step (fun K hK => ?_)
            go_simp
            refine hK _ _ trivial ?_
            clear hK K
            refine SeqS.nil ?_
            go_wp2_with fail
            go_roundg g
            case rel => exact ⟨k + 1, by go_num, QRel.step HL.out HS2.out HK.out hkg (World.ownsRow.drew (World.ownsRow.alloc hown _)) hgg (by simp; omega) (hb.alloc hb.size _).drew (fun j hj => ((((Below.refl _ wr).alloc (Nat.le_refl _) _).drew.cell (p := ⟨w.heap.size + 1, j, none⟩) hlt).trans (HC.out j hj))) rfl hown3 hg3 hat rfl⟩
            case measure => omega
          · by_cases hhi : 126 < n
            · have HS2 : Hid ([92, 120, hexc (c.toNat / 16), hexc (c.toNat % 16)] = escB c) := Lib.hid (by rw [HS.out, if_pos (by rw [← Int.ofNat_lt, ← Int.ofNat_lt, ← HN.out]; omega)])
              clear HS
              have k1 := fun (W : World) => hex_hi W HN.out
              have k2 := fun (W : World) => hex_lo W HN.out
              go_wp2_with fail
              refine wp_region_heldS (fun _ => True) 7 (by kernel_rfl) (by kernel_rfl) (fun _ _ _ _ _ h => h) ?_ ?_
              · ((trivial))
              simp only [List.take_succ_cons, List.take_zero]
              repeat (refine HdS.step (fun K hK => ?_); go_simp; first | (refine hK _ ?_; clear hK K) | (apply Exists.intro; refine ⟨fun W hW => ?_, hK _ ?_⟩; (first | (intros; rfl) | ((rfl))); clear hK K))
              refine HdS.nil ?_
              simp only [List.drop_succ_cons, List.drop_zero]
              refine SeqS.step (fun K hK => ?_)
              go_simp
              refine hK _ _ trivial ?_
              clear hK K
              refine SeqS.step (fun K hK => ?_)
              refine wp_append_lies _ (.tmp 36) (.tmp 43) 23 rfl w.heap.size 5 i0 _ 1 1 Tryz.underlying23 hi0 hz0 hz1 hz2 rfl (by omega) (.slice (some ⟨gg, 0, none⟩) l.length cap) l.length _ rfl (World.ownsRow.drew (World.ownsRow.alloc hown _)) ⟨wr.heap.size, 0, none⟩ 4 4 [_, _, _, _] rfl rfl (news_at rfl) one_four (by omega) (by unfold maxLen; omega) (by omega) (by simp; omega) _ rfl ?_
              intro g3 cap3 w3 hown3 hg3 hat hlt3
              refine hK _ _ trivial ?_
              clear hK K
              refine SeqS.step (fun K hK => ?_)
              go_simp
              refine hK _ _ trivial ?_
              clear hK K
              refine SeqS.nil ?_
              go_wp2_with fail
              go_roundg g
              case rel => exact ⟨k + 1, by go_num, QRel.step HL.out HS2.out HK.out hkg (World.ownsRow.drew (World.ownsRow.alloc hown _)) hgg (by simp; omega) (hb.alloc hb.size _).drew (fun j hj => ((((Below.refl _ wr).alloc (Nat.le_refl _) _).drew.cell (p := ⟨w.heap.size + 1, j, none⟩) hlt).trans (HC.out j hj))) rfl hown3 hg3 hat rfl⟩
              case measure => omega
            · have HS2 : Hid ([c] = escB c) := Lib.hid (by rw [HS.out, if_neg (by rw [← Int.ofNat_lt, ← Int.ofNat_lt, ← HN.out]; omega)])
              clear HS
              go_wp2_with (at_builtin; refine wpList_append_lies _ rfl (.tmp 45) (.tmp 47) 23 rfl w.heap.size 5 i0 _ 1 1 Tryz.underlying23 hi0 hz0 hz1 hz2 rfl (by omega) (.slice (some ⟨gg, 0, none⟩) l.length cap) l.length _ rfl (World.ownsRow.alloc hown _) ⟨wr.heap.size, 0, none⟩ 1 1 [_] rfl rfl (news_at rfl) (one_of1 rfl) (by omega) (by unfold maxLen; omega) (by omega) (by simp; omega) _ rfl ?_; intro g3 cap3 w3 hown3 hg3 hat hlt3; refine Hid.out ?_)
              refine Lib.hid ?_
              go_wp2_with fail
              go_roundg g
              case rel => exact ⟨k + 1, by go_num, QRel.step HL.out HS2.out HK.out hkg (World.ownsRow.alloc hown _) hgg (by simp; omega) (hb.alloc hb.size _) (fun j hj => ((((Below.refl _ wr).alloc (Nat.le_refl _) _).cell (p := ⟨w.heap.size + 1, j, none⟩) hlt).trans (HC.out j hj))) (by rw [HN.out]; rfl) hown3 hg3 hat rfl⟩
              case measure => omega
        | succ g2 =>
          have hm5 : m = 0 ∨ m = 1 ∨ m = 2 ∨ m = 3 ∨ m = 4 := by omega
          rcases hm5 with rfl | rfl | rfl | rfl | rfl
          · have i9 := fun (W : World) => esc_at0 W
            by_cases hx : n = 34
            · have HS2 : Hid ([92, 34] = escB c) := Lib.hid (esc_hit (x := 34) (y := 34) (by decide) (by rw [← HN.out, hx]; rfl)).symm
              have hqx : ((34 : Int) == n) = true := by rw [hx]; rfl
              clear HM hx
              obtain ⟨gg, hkg, ⟨hown, cap, rfl⟩, hgg, hlt, hb, hc⟩ := hq2
              have hfl := flat_len (t.data.toList.take k)
              have htk : (t.data.toList.take k).length ≤ t.size := by rw [List.length_take]; simp; omega
              have hn5 : (34 :: (t.data.toList.take k).flatMap escB).length ≤ 137438953473 := by rw [List.length_cons]; omega
              obtain ⟨l, hl5⟩ : ∃ l, l = 34 :: (t.data.toList.take k).flatMap escB := ⟨_, rfl⟩
              rw [← hl5] at hown hn5 ⊢
              have HL := Lib.hid hl5
              clear hl5 hfl htk
              have hsz := hb.size
              have HC := Lib.hid hc
              clear hc
              go_wp2_with (at_builtin; refine wpList_append_lies _ rfl (.tmp 24) (.tmp 27) 23 rfl w.heap.size 5 i0 _ 1 1 Tryz.underlying23 hi0 hz0 hz1 hz2 rfl (by omega) (.slice (some ⟨gg, 0, none⟩) l.length cap) l.length _ rfl (World.ownsRow.alloc (World.ownsRow.alloc hown _) _) ⟨wr.heap.size + 1, 0, none⟩ 2 2 [_, _] rfl rfl (news_at (by simp)) (one_of2 rfl rfl) (by omega) (by unfold maxLen; omega) (by omega) (by simp; omega) _ rfl ?_; intro g3 cap3 w3 hown3 hg3 hat hlt3; refine Hid.out ?_)
              refine Lib.hid ?_
              go_wp2_with fail
              go_roundg g
              case rel => exact ⟨k + 1, by go_num, QRel.step HL.out HS2.out HK.out hkg (World.ownsRow.alloc (World.ownsRow.alloc hown _) _) hgg (by simp; omega) ((hb.alloc hb.size _).alloc (by simp; omega) _) (fun j hj => ((((Below.refl _ wr).alloc (Nat.le_refl _) _).alloc (by simp) _).cell (p := ⟨w.heap.size + 1, j, none⟩) hlt).trans (HC.out j hj)) rfl hown3 hg3 hat rfl⟩
              case measure => omega
            · have hqx : ((34 : Int) == n) = false := by rw [beq_eq_false_iff_ne]; omega
              go_wp2_with fail
              go_roundg g2
              case rel => exact ⟨1, by go_num, by omega, Lib.hid (fun i x hi he => by
                by_cases h : i < 0
                · exact HM.out i x h he
                · obtain rfl : i = 0 := by omega
                  simp [escK] at he
                  subst he; exact hx), hq2.alloc _⟩
              case measure => omega
          · have i9 := fun (W : World) => esc_at1 W
            by_cases hx : n = 92
            · have HS2 : Hid ([92, 92] = escB c) := Lib.hid (esc_hit (x := 92) (y := 92) (by decide) (by rw [← HN.out, hx]; rfl)).symm
              have hqx : ((92 : Int) == n) = true := by rw [hx]; rfl
              clear HM hx
              obtain ⟨gg, hkg, ⟨hown, cap, rfl⟩, hgg, hlt, hb, hc⟩ := hq2
              have hfl := flat_len (t.data.toList.take k)
              have htk : (t.data.toList.take k).length ≤ t.size := by rw [List.length_take]; simp; omega
              have hn5 : (34 :: (t.data.toList.take k).flatMap escB).length ≤ 137438953473 := by rw [List.length_cons]; omega
              obtain ⟨l, hl5⟩ : ∃ l, l = 34 :: (t.data.toList.take k).flatMap escB := ⟨_, rfl⟩
              rw [← hl5] at hown hn5 ⊢
              have HL := Lib.hid hl5
              clear hl5 hfl htk
              have hsz := hb.size
              have HC := Lib.hid hc
              clear hc
              go_wp2_with (at_builtin; refine wpList_append_lies _ rfl (.tmp 24) (.tmp 27) 23 rfl w.heap.size 5 i0 _ 1 1 Tryz.underlying23 hi0 hz0 hz1 hz2 rfl (by omega) (.slice (some ⟨gg, 0, none⟩) l.length cap) l.length _ rfl (World.ownsRow.alloc (World.ownsRow.alloc hown _) _) ⟨wr.heap.size + 1, 0, none⟩ 2 2 [_, _] rfl rfl (news_at (by simp)) (one_of2 rfl rfl) (by omega) (by unfold maxLen; omega) (by omega) (by simp; omega) _ rfl ?_; intro g3 cap3 w3 hown3 hg3 hat hlt3; refine Hid.out ?_)
              refine Lib.hid ?_
              go_wp2_with fail
              go_roundg g
              case rel => exact ⟨k + 1, by go_num, QRel.step HL.out HS2.out HK.out hkg (World.ownsRow.alloc (World.ownsRow.alloc hown _) _) hgg (by simp; omega) ((hb.alloc hb.size _).alloc (by simp; omega) _) (fun j hj => ((((Below.refl _ wr).alloc (Nat.le_refl _) _).alloc (by simp) _).cell (p := ⟨w.heap.size + 1, j, none⟩) hlt).trans (HC.out j hj)) rfl hown3 hg3 hat rfl⟩
              case measure => omega
            · have hqx : ((92 : Int) == n) = false := by rw [beq_eq_false_iff_ne]; omega
              go_wp2_with fail
              go_roundg g2
              case rel => exact ⟨2, by go_num, by omega, Lib.hid (fun i x hi he => by
                by_cases h : i < 1
                · exact HM.out i x h he
                · obtain rfl : i = 1 := by omega
                  simp [escK] at he
                  subst he; exact hx), hq2.alloc _⟩
              case measure => omega
          · have i9 := fun (W : World) => esc_at2 W
            by_cases hx : n = 10
            · have HS2 : Hid ([92, 110] = escB c) := Lib.hid (esc_hit (x := 10) (y := 110) (by decide) (by rw [← HN.out, hx]; rfl)).symm
              have hqx : ((10 : Int) == n) = true := by rw [hx]; rfl
              clear HM hx
              obtain ⟨gg, hkg, ⟨hown, cap, rfl⟩, hgg, hlt, hb, hc⟩ := hq2
              have hfl := flat_len (t.data.toList.take k)
              have htk : (t.data.toList.take k).length ≤ t.size := by rw [List.length_take]; simp; omega
              have hn5 : (34 :: (t.data.toList.take k).flatMap escB).length ≤ 137438953473 := by rw [List.length_cons]; omega
              obtain ⟨l, hl5⟩ : ∃ l, l = 34 :: (t.data.toList.take k).flatMap escB := ⟨_, rfl⟩
              rw [← hl5] at hown hn5 ⊢
              have HL := Lib.hid hl5
              clear hl5 hfl htk
              have hsz := hb.size
              have HC := Lib.hid hc
              clear hc
              go_wp2_with (at_builtin; refine wpList_append_lies _ rfl (.tmp 24) (.tmp 27) 23 rfl w.heap.size 5 i0 _ 1 1 Tryz.underlying23 hi0 hz0 hz1 hz2 rfl (by omega) (.slice (some ⟨gg, 0, none⟩) l.length cap) l.length _ rfl (World.ownsRow.alloc (World.ownsRow.alloc hown _) _) ⟨wr.heap.size + 1, 0, none⟩ 2 2 [_, _] rfl rfl (news_at (by simp)) (one_of2 rfl rfl) (by omega) (by unfold maxLen; omega) (by omega) (by simp; omega) _ rfl ?_; intro g3 cap3 w3 hown3 hg3 hat hlt3; refine Hid.out ?_)
              refine Lib.hid ?_
              go_wp2_with fail
              go_roundg g
              case rel => exact ⟨k + 1, by go_num, QRel.step HL.out HS2.out HK.out hkg (World.ownsRow.alloc (World.ownsRow.alloc hown _) _) hgg (by simp; omega) ((hb.alloc hb.size _).alloc (by simp; omega) _) (fun j hj => ((((Below.refl _ wr).alloc (Nat.le_refl _) _).alloc (by simp) _).cell (p := ⟨w.heap.size + 1, j, none⟩) hlt).trans (HC.out j hj)) rfl hown3 hg3 hat rfl⟩
              case measure => omega
            · have hqx : ((10 : Int) == n) = false := by rw [beq_eq_false_iff_ne]; omega
              go_wp2_with fail
              go_roundg g2
              case rel => exact ⟨3, by go_num, by omega, Lib.hid (fun i x hi he => by
                by_cases h : i < 2
                · exact HM.out i x h he
                · obtain rfl : i = 2 := by omega
                  simp [escK] at he
                  subst he; exact hx), hq2.alloc _⟩
              case measure => omega
          · have i9 := fun (W : World) => esc_at3 W
            by_cases hx : n = 9
            · have HS2 : Hid ([92, 116] = escB c) := Lib.hid (esc_hit (x := 9) (y := 116) (by decide) (by rw [← HN.out, hx]; rfl)).symm
              have hqx : ((9 : Int) == n) = true := by rw [hx]; rfl
              clear HM hx
              obtain ⟨gg, hkg, ⟨hown, cap, rfl⟩, hgg, hlt, hb, hc⟩ := hq2
              have hfl := flat_len (t.data.toList.take k)
              have htk : (t.data.toList.take k).length ≤ t.size := by rw [List.length_take]; simp; omega
              have hn5 : (34 :: (t.data.toList.take k).flatMap escB).length ≤ 137438953473 := by rw [List.length_cons]; omega
              obtain ⟨l, hl5⟩ : ∃ l, l = 34 :: (t.data.toList.take k).flatMap escB := ⟨_, rfl⟩
              rw [← hl5] at hown hn5 ⊢
              have HL := Lib.hid hl5
              clear hl5 hfl htk
              have hsz := hb.size
              have HC := Lib.hid hc
              clear hc
              go_wp2_with (at_builtin; refine wpList_append_lies _ rfl (.tmp 24) (.tmp 27) 23 rfl w.heap.size 5 i0 _ 1 1 Tryz.underlying23 hi0 hz0 hz1 hz2 rfl (by omega) (.slice (some ⟨gg, 0, none⟩) l.length cap) l.length _ rfl (World.ownsRow.alloc (World.ownsRow.alloc hown _) _) ⟨wr.heap.size + 1, 0, none⟩ 2 2 [_, _] rfl rfl (news_at (by simp)) (one_of2 rfl rfl) (by omega) (by unfold maxLen; omega) (by omega) (by simp; omega) _ rfl ?_; intro g3 cap3 w3 hown3 hg3 hat hlt3; refine Hid.out ?_)
              refine Lib.hid ?_
              go_wp2_with fail
              go_roundg g
              case rel => exact ⟨k + 1, by go_num, QRel.step HL.out HS2.out HK.out hkg (World.ownsRow.alloc (World.ownsRow.alloc hown _) _) hgg (by simp; omega) ((hb.alloc hb.size _).alloc (by simp; omega) _) (fun j hj => ((((Below.refl _ wr).alloc (Nat.le_refl _) _).alloc (by simp) _).cell (p := ⟨w.heap.size + 1, j, none⟩) hlt).trans (HC.out j hj)) rfl hown3 hg3 hat rfl⟩
              case measure => omega
            · have hqx : ((9 : Int) == n) = false := by rw [beq_eq_false_iff_ne]; omega
              go_wp2_with fail
              go_roundg g2
              case rel => exact ⟨4, by go_num, by omega, Lib.hid (fun i x hi he => by
                by_cases h : i < 3
                · exact HM.out i x h he
                · obtain rfl : i = 3 := by omega
                  simp [escK] at he
                  subst he; exact hx), hq2.alloc _⟩
              case measure => omega
          · have i9 := fun (W : World) => esc_at4 W
            by_cases hx : n = 13
            · have HS2 : Hid ([92, 114] = escB c) := Lib.hid (esc_hit (x := 13) (y := 114) (by decide) (by rw [← HN.out, hx]; rfl)).symm
              have hqx : ((13 : Int) == n) = true := by rw [hx]; rfl
              clear HM hx
              obtain ⟨gg, hkg, ⟨hown, cap, rfl⟩, hgg, hlt, hb, hc⟩ := hq2
              have hfl := flat_len (t.data.toList.take k)
              have htk : (t.data.toList.take k).length ≤ t.size := by rw [List.length_take]; simp; omega
              have hn5 : (34 :: (t.data.toList.take k).flatMap escB).length ≤ 137438953473 := by rw [List.length_cons]; omega
              obtain ⟨l, hl5⟩ : ∃ l, l = 34 :: (t.data.toList.take k).flatMap escB := ⟨_, rfl⟩
              rw [← hl5] at hown hn5 ⊢
              have HL := Lib.hid hl5
              clear hl5 hfl htk
              have hsz := hb.size
              have HC := Lib.hid hc
              clear hc
              go_wp2_with (at_builtin; refine wpList_append_lies _ rfl (.tmp 24) (.tmp 27) 23 rfl w.heap.size 5 i0 _ 1 1 Tryz.underlying23 hi0 hz0 hz1 hz2 rfl (by omega) (.slice (some ⟨gg, 0, none⟩) l.length cap) l.length _ rfl (World.ownsRow.alloc (World.ownsRow.alloc hown _) _) ⟨wr.heap.size + 1, 0, none⟩ 2 2 [_, _] rfl rfl (news_at (by simp)) (one_of2 rfl rfl) (by omega) (by unfold maxLen; omega) (by omega) (by simp; omega) _ rfl ?_; intro g3 cap3 w3 hown3 hg3 hat hlt3; refine Hid.out ?_)
              refine Lib.hid ?_
              go_wp2_with fail
              go_roundg g
              case rel => exact ⟨k + 1, by go_num, QRel.step HL.out HS2.out HK.out hkg (World.ownsRow.alloc (World.ownsRow.alloc hown _) _) hgg (by simp; omega) ((hb.alloc hb.size _).alloc (by simp; omega) _) (fun j hj => ((((Below.refl _ wr).alloc (Nat.le_refl _) _).alloc (by simp) _).cell (p := ⟨w.heap.size + 1, j, none⟩) hlt).trans (HC.out j hj)) rfl hown3 hg3 hat rfl⟩
              case measure => omega
            · have hqx : ((13 : Int) == n) = false := by rw [beq_eq_false_iff_ne]; omega
              go_wp2_with fail
              go_roundg g2
              case rel => exact ⟨5, by go_num, by omega, Lib.hid (fun i x hi he => by
                by_cases h : i < 4
                · exact HM.out i x h he
                · obtain rfl : i = 4 := by omega
                  simp [escK] at he
                  subst he; exact hx), hq2.alloc _⟩
              case measure => omega
end Go.Proofs.YtobpkelblpdajaaGreatDoor
