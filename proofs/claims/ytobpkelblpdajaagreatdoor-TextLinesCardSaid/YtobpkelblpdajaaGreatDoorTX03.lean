/- A region that draws its order, whose own operations only read and whose callees may make memory: one walk, in a class of worlds. -/
import Derived.Deep.Quiet
import Derived.Deep.QuietTactic
import Derived.BigQuiet
import Derived.Below
import Derived.KernelRfl
import Derived.RowKit
import Derived.StillTail
import Derived.Test.YtobpkelblpdajaaGreatDoorTX02
set_option linter.unusedVariables false
set_option linter.unusedSimpArgs false
set_option linter.unusedSectionVars false
namespace Go.Proofs.YtobpkelblpdajaaGreatDoor
open Go Go.RowKit
theorem wp_region_class_lit {P : Program} (C : World → Prop) {id : Nat} {Q : Exit → Act → World → Prop} {a : Act} {w : World} {l : List Oper} (hm : P.follows .mixedOrders = true) (hB : Region.lexB .any l.toArray = true) (hC : C { w with drawn := w.drawn + 1 })
    (h : wpQuiet P l.toArray C (fun a' => ∀ w', C w' → Q .normal a' w') l a) : (Code.region id l.toArray true).wp P Q a w :=
  wp_region_quiet (C := C) hm hB hC (by simpa using h)
/- The walk, behind a structure: the elaborator does not unfold it. -/
structure WpC (P : Program) (ops : Array Oper) (C : World → Prop) (Q : Act → Prop) (l : List Oper) (a : Act) : Prop where
  out : wpQuiet P ops C Q l a
theorem WpC.step {P : Program} {ops : Array Oper} {C : World → Prop} {Q : Act → Prop} {o : Oper} {rest : List Oper} {a : Act}
    (h : ∀ K : Act → Prop, (∀ a, WpC P ops C Q rest a → K a) → if Region.wanted o (yielded ops a.tmps) then o.quiet P a C K else K (a.put o.dst undef)) : WpC P ops C Q (o :: rest) a :=
  ⟨wpQuiet_step fun K hK => h K fun a ha => hK a ha.out⟩
theorem WpC.nil {P : Program} {ops : Array Oper} {C : World → Prop} {Q : Act → Prop} {a : Act} (h : Q a) : WpC P ops C Q [] a := ⟨wpQuiet_nil h⟩
theorem bcellB {B : Nat} {W w1 : World} (hb : Below B W w1) : (∀ b o, b < B → w1.cell? ⟨b, o, none⟩ = W.cell? ⟨b, o, none⟩) ∧ (∀ b o, b < B → w1.frozen? ⟨b, o, none⟩ = W.frozen? ⟨b, o, none⟩) :=
  ⟨fun b o h => hb.cell (p := ⟨b, o, none⟩) h, fun b o h => hb.frozen (p := ⟨b, o, none⟩) h⟩
theorem below_then {B : Nat} {w W w1 : World} (hW : Below B w W) (hB : B ≤ w.heap.size) (h : Below W.heap.size W w1) : Below B w w1 := hW.trans (h.mono (Nat.le_trans hB hW.size))
/- One operation of the walk: loads by the first tactic (the world is W, its class hW), calls by the second. -/
theorem wp_region_below_lit {P : Program} {id : Nat} {Q : Exit → Act → World → Prop} {a : Act} {w : World} {l : List Oper} (hm : P.follows .mixedOrders = true) (hB : Region.lexB .any l.toArray = true)
    (h : WpC P l.toArray (fun W => Below w.heap.size w W) (fun a' => ∀ w', Below w.heap.size w w' → Q .normal a' w') l a) : (Code.region id l.toArray true).wp P Q a w :=
  wp_region_class_lit (fun W => Below w.heap.size w W) hm hB ⟨rfl, rfl, rfl, Nat.le_refl _, fun _ _ => rfl⟩ h.out
/- A head that only reads (its callees may make memory), in any order; behind it a tail, one after the other. -/
section
variable {P : Program} {ops : Array Oper} {md : Region.Mode} {C : World → Prop}
/- The first operation makes nothing and reads no memory, but the tail alone waits for it. -/
end
end Go.Proofs.YtobpkelblpdajaaGreatDoor
/- Walks: value.fields. -/
namespace Go.Proofs.YtobpkelblpdajaaGreatDoor
open Go Go.RowKit
/- Go's <= of texts. -/
def leS (a b : ByteArray) : Bool := Op.bytesLess a.toList b.toList || a.toList == b.toList
def FieldsTo (l : List (ByteArray × V)) (k : Nat) : Prop := ∀ (i : Nat) (p : ByteArray × V), i < k → l[i]? = some p → nameB p.1.data.toList = true ∧ ∀ q, 0 < i → l[i - 1]? = some q → leS p.1 q.1 = false
open Classical in
noncomputable def fieldsV (l : List (ByteArray × V)) : Nat := if 4096 < l.length then 2 else if FieldsTo l l.length then 0 else 8
theorem FieldsTo.zero (l : List (ByteArray × V)) : FieldsTo l 0 := fun i p h => by omega
theorem FieldsTo.succ {l : List (ByteArray × V)} {k : Nat} {p : ByteArray × V} (h : FieldsTo l k) (hp : l[k]? = some p) (hn : nameB p.1.data.toList = true) (hq : ∀ q, 0 < k → l[k - 1]? = some q → leS p.1 q.1 = false) : FieldsTo l (k + 1) := by
  intro i r hi hr
  by_cases e : i = k
  · subst e; rw [hp] at hr; injection hr with hr; subst hr; exact ⟨hn, hq⟩
  · exact h i r (by omega) hr
theorem fieldsV_long {l : List (ByteArray × V)} (h : 4096 < l.length) : fieldsV l = 2 := by unfold fieldsV; rw [if_pos h]
theorem fieldsV_ok {l : List (ByteArray × V)} (h : l.length ≤ 4096) (hf : FieldsTo l l.length) : fieldsV l = 0 := by unfold fieldsV; rw [if_neg (by omega), if_pos hf]
theorem fieldsV_bad {l : List (ByteArray × V)} {k : Nat} {p : ByteArray × V} (h : l.length ≤ 4096) (hp : l[k]? = some p) (hb : nameB p.1.data.toList = false ∨ ∃ q, 0 < k ∧ l[k - 1]? = some q ∧ leS p.1 q.1 = true) : fieldsV l = 8 := by
  unfold fieldsV
  rw [if_neg (by omega), if_neg]
  intro hf
  have hk : k < l.length := (List.getElem?_eq_some_iff.1 hp).1
  obtain ⟨h1, h2⟩ := hf k p hk hp
  rcases hb with hb | ⟨q, h3, h4, h5⟩
  · rw [h1] at hb; cases hb
  · rw [h2 q h3 h4] at h5; cases h5
theorem RdS.one {w : World} {S : Nat → Prop} {x : V} {v : Value} (h : RdS w S x v) : v.oneCell' = true := by
  cases x with
  | nil => subst h; rfl
  | bool b => subst h; rfl
  | int n => obtain ⟨rfl, _⟩ := h; rfl
  | flt n => subst h; rfl
  | text s => obtain ⟨rfl, _⟩ := h; rfl
  | bytes l => obtain ⟨A, c, rfl, _⟩ := h; rfl
  | ref n => obtain ⟨rfl, _⟩ := h; rfl
  | list l => obtain ⟨A, c, rfl, _⟩ := h; rfl
  | dict l => obtain ⟨A, c, rfl, _⟩ := h; rfl
  | record a b c => obtain ⟨b, rfl, _⟩ := h; rfl
  | nothing => subst h; rfl
  | alien => obtain ⟨t, x, rfl, ht⟩ := h; rfl
theorem Rd.one {w : World} {B : Nat} {x : V} {v : Value} (h : Rd w B x v) : v.oneCell' = true := RdS.one h
/- A slice of fields, as it lies. -/
def DictAt (w : World) (B : Nat) (A : Option Addr) (l : List (ByteArray × V)) : Prop := l = [] ∨ ∃ b off, A = some ⟨b, off, none⟩ ∧ b < B ∧ RdD w (fun b => b < B) b off l
theorem DictAt.below {w w' : World} {B : Nat} {A : Option Addr} {l : List (ByteArray × V)} (h : DictAt w B A l) (hb : Below B w w') : DictAt w' B A l := by
  refine h.imp id ?_
  rintro ⟨b, off, hA, hB, hr⟩
  refine ⟨b, off, hA, hB, RdD.iff.2 fun i x hx => ?_⟩
  obtain ⟨hn, hs, v, hv, hd⟩ := RdD.iff.1 hr i x hx
  exact ⟨(hb.cell hB).trans hn, hs, v, (hb.cell hB).trans hv, hd.below hb⟩
theorem DictAt.more {w : World} {B B' : Nat} {A : Option Addr} {l : List (ByteArray × V)} (h : DictAt w B A l) (hB : B ≤ B') : DictAt w B' A l := by
  refine h.imp id ?_
  rintro ⟨b, off, hA, hb, hr⟩
  refine ⟨b, off, hA, by omega, RdD.iff.2 fun i x hx => ?_⟩
  obtain ⟨hn, hs, v, hv, hd⟩ := RdD.iff.1 hr i x hx
  exact ⟨hn, hs, v, hv, Rd.more hB _ _ hd⟩
theorem DictAt.at_ {w : World} {B : Nat} {A : Option Addr} {l : List (ByteArray × V)} (h : DictAt w B A l) {k : Nat} (hk : k < l.length) :
    ∃ b off, A = some ⟨b, off, none⟩ ∧ b < B ∧ RdD w (fun b => b < B) b off l := by
  rcases h with h | h
  · subst h; simp at hk
  · exact h
set_option maxRecDepth 100000 in
set_option maxHeartbeats 1000000 in
theorem fields_any (l : List (ByteArray × V)) (A : Option Addr) (c : Nat) (w : World) (hl : l.length ≤ 1099511627776) (hd : DictAt w w.heap.size A l) :
    Calls Tryz.prog 205 #[.slice A l.length c] w fun e w' => e = .returned (.int .i64 (fieldsV l)) ∧ Below w.heap.size w w' := by
  by_cases hlong : 4096 < l.length
  · have HF := Lib.hid (fieldsV_long hlong)
    go_enter Tryz.func205, Tryz.ntmps205
    go_wp2
    go_ret
    exact ⟨ret_int (by rw [HF.out]; rfl), Below.refl _ _⟩
  have hlen : l.length ≤ 4096 := by omega
  clear hlong
  go_enter Tryz.func205, Tryz.ntmps205
  go_wp2
  go_loopw [10] (fun i wr => ∃ k : Nat, i = .int .i64 k ∧ k ≤ l.length ∧ Hid (FieldsTo l k) ∧ Below w.heap.size w wr) (fun i _ => l.length - (intOf i).toNat)
  case atStart => exact ⟨0, rfl, by omega, FieldsTo.zero l, Below.refl _ _⟩
  case round =>
    obtain ⟨k, rfl, hk, HT, hb⟩ := hrel
    by_cases hlt : k < l.length
    · obtain ⟨b, off, rfl, hbB, hr⟩ := hd.at_ hlt
      have hz := hb.size
      obtain ⟨p, hp⟩ : ∃ p, l[k]? = some p := ⟨_, List.getElem?_eq_getElem hlt⟩
      obtain ⟨c0, hps, v, c1, hv⟩ := RdD.iff.1 hr k p hp
      have d0 := (hb.cell (p := ⟨b, off + k * 2, none⟩) hbB).trans c0
      have d1 := (hb.cell (p := ⟨b, off + k * 2 + 1, none⟩) hbB).trans c1
      have hst := fun (W : World) (a : Addr) (m : Mode) => run_store Tryz.prog W a v m hv.one
      have HP := Lib.hid hp
      clear hp c0 c1 hv
      have HN := fun (W : World) => name_any p.1 W hps
      cases hnm : nameB p.1.data.toList
      · have HF := Lib.hid (fieldsV_bad hlen HP.out (.inl hnm))
        rw [hnm] at HN
        have HNN := Lib.hid HN
        clear HN hnm
        go_wp2
        refine wp_region_below_lit (by kernel_rfl) (by kernel_rfl) ?_
        repeat (refine WpC.step (fun K hK => ?_); go_simp; first | (refine hK _ ?_; clear hK K) | (apply Exists.intro; refine ⟨fun W hW => ?_, hK _ ?_⟩; (first | (intros; rfl) | (refine ⟨rfl, ?_⟩; rfl) | ((obtain ⟨hc, hf⟩ := bcellB hW; go_simp; rfl)) | ((go_at_call 206; refine (HNN.out _).mono ?_; rintro e w1 ⟨rfl, hb1⟩; exact ⟨rfl, below_then hW (by go_simp) hb1⟩))); clear hK K))
        refine WpC.nil ?_
        intro wq hwq
        go_wp2
        go_ret
        exact ⟨ret_int (by rw [HF.out]; rfl), (hb.alloc hz _).trans (hwq.mono (by go_simp; omega))⟩
      · rw [hnm] at HN
        have HNN := Lib.hid HN
        have HNM := Lib.hid hnm
        clear HN hnm
        by_cases hk0 : k = 0
        · subst hk0
          simp only [Nat.zero_mul, Nat.add_zero] at d0 d1
          have HT2 : Hid (FieldsTo l (0 + 1)) := HT.out.succ HP.out HNM.out (fun q h => absurd h (by omega))
          go_wp2
          refine wp_region_below_lit (by kernel_rfl) (by kernel_rfl) ?_
          repeat (refine WpC.step (fun K hK => ?_); go_simp; first | (refine hK _ ?_; clear hK K) | (apply Exists.intro; refine ⟨fun W hW => ?_, hK _ ?_⟩; (first | (intros; rfl) | (refine ⟨rfl, ?_⟩; rfl) | ((obtain ⟨hc, hf⟩ := bcellB hW; go_simp; rfl)) | ((go_at_call 206; refine (HNN.out _).mono ?_; rintro e w1 ⟨rfl, hb1⟩; exact ⟨rfl, below_then hW (by go_simp) hb1⟩))); clear hK K))
          refine WpC.nil ?_
          intro wq hwq
          go_wp2
          refine ⟨⟨0 + 1, rfl, hlt, HT2, (hb.alloc hz _).trans (hwq.mono (by go_simp; omega))⟩, ?_⟩
          simp [intOf]; omega
        · obtain ⟨j, rfl⟩ : ∃ j, k = j + 1 := ⟨k - 1, by omega⟩
          obtain ⟨q, hq⟩ : ∃ q, l[j]? = some q := ⟨_, List.getElem?_eq_getElem (by omega)⟩
          obtain ⟨e0, hqs, -⟩ := RdD.iff.1 hr j q hq
          have dq := (hb.cell (p := ⟨b, off + j * 2, none⟩) hbB).trans e0
          clear e0
          have hwj : IntKind.i64.wrap (j : Int) = (j : Int) := by rw [IntKind.wrap_i64]; omega
          have hjl : j < l.length := by omega
          have hb1 : b < wr.heap.size + 1 := by omega
          have hb2 : b < wr.heap.size := by omega
          have hb3 : b ≠ wr.heap.size := by omega
          have hle' : (Op.bytesLess p.1.toList q.1.toList || p.1.toList == q.1.toList) = leS p.1 q.1 := rfl
          cases hle : leS p.1 q.1 <;> rw [hle] at hle'
          · have HT2 : Hid (FieldsTo l (j + 1 + 1)) := HT.out.succ HP.out HNM.out (fun q' _ h => by have : q' = q := Option.some.inj (h.symm.trans hq); rw [this]; exact hle)
            go_wp2
            refine wp_region_below_lit (by kernel_rfl) (by kernel_rfl) ?_
            repeat (refine WpC.step (fun K hK => ?_); go_simp; first | (refine hK _ ?_; clear hK K) | (apply Exists.intro; refine ⟨fun W hW => ?_, hK _ ?_⟩; (first | (intros; rfl) | (refine ⟨rfl, ?_⟩; rfl) | ((obtain ⟨hc, hf⟩ := bcellB hW; go_simp; rfl)) | ((go_at_call 206; refine (HNN.out _).mono ?_; rintro e w1 ⟨rfl, hb1⟩; exact ⟨rfl, below_then hW (by go_simp) hb1⟩))); clear hK K))
            refine WpC.nil ?_
            intro wq hwq
            go_wp2
            refine ⟨⟨j + 1 + 1, rfl, hlt, HT2, (hb.alloc hz _).trans (hwq.mono (by go_simp; omega))⟩, ?_⟩
            simp [intOf]; omega
          · have HF := Lib.hid (fieldsV_bad hlen HP.out (.inr ⟨q, by omega, hq, hle⟩))
            go_wp2
            refine wp_region_below_lit (by kernel_rfl) (by kernel_rfl) ?_
            repeat (refine WpC.step (fun K hK => ?_); go_simp; first | (refine hK _ ?_; clear hK K) | (apply Exists.intro; refine ⟨fun W hW => ?_, hK _ ?_⟩; (first | (intros; rfl) | (refine ⟨rfl, ?_⟩; rfl) | ((obtain ⟨hc, hf⟩ := bcellB hW; go_simp; rfl)) | ((go_at_call 206; refine (HNN.out _).mono ?_; rintro e w1 ⟨rfl, hb1⟩; exact ⟨rfl, below_then hW (by go_simp) hb1⟩))); clear hK K))
            refine WpC.nil ?_
            intro wq hwq
            go_wp2
            go_ret
            exact ⟨ret_int (by rw [HF.out]; rfl), (hb.alloc hz _).trans (hwq.mono (by go_simp; omega))⟩
    · obtain rfl : k = l.length := by omega
      have HF := Lib.hid (fieldsV_ok hlen HT.out)
      go_wp2
      go_ret
      exact ⟨ret_int (by rw [HF.out]; rfl), hb⟩
end Go.Proofs.YtobpkelblpdajaaGreatDoor
