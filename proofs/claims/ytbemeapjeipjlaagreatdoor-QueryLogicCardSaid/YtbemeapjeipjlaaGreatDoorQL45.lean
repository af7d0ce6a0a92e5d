/- Operations that make expressions, in any order. -/
import Derived.Test.YtbemeapjeipjlaaGreatDoorQL01
import Derived.Test.YtbemeapjeipjlaaGreatDoorQL44
import Derived.Great.BuildSlice
set_option linter.unusedVariables false
set_option linter.unusedSimpArgs false
namespace Go.Proofs.YtbemeapjeipjlaaGreatDoor
open Go Go.RowKit
/- What a slot holds. -/
inductive K where
  | e (x : Ex)
  | l (xs : List Ex)
  | two (x y : Ex)
  | rows (ps : List (Ex × Ex))
  | any
def Sat : K → Value → World → Prop
  | .e x, v, W => ∃ y, v = termOf y ∧ RdE W W.heap.size x y
  | .l xs, v, W => ∃ A c, v = .slice A xs.length c ∧ PartsS W (fun b => b < W.heap.size) A xs
  | .two x y, v, W => ∃ a b, v = .agg (a ++ b).toArray ∧ RdE W W.heap.size x a ∧ RdE W W.heap.size y b
  | .rows ps, v, W => ∃ b, v = .slice (some ⟨b, 0, none⟩) ps.length ps.length ∧ b < W.heap.size ∧ ∀ (i : Nat) p, ps[i]? = some p → ∃ x y, Lie W b (i * 30) x ∧ Lie W b (i * 30 + 15) y ∧ RdE W W.heap.size p.1 x ∧ RdE W W.heap.size p.2 y
  | .any, _, _ => True
theorem RdE.on {w w' : World} {x : Ex} {v : List Value} (h : RdE w w.heap.size x v) (hb : Below w.heap.size w w') : RdE w' w'.heap.size x v := RdE.more hb.size _ _ (RdE.below h hb)
theorem Sat.on {k : K} {v : Value} {w w' : World} (h : Sat k v w) (hb : Below w.heap.size w w') : Sat k v w' := by
  cases k with
  | e x => obtain ⟨y, h1, h2⟩ := h; exact ⟨y, h1, h2.on hb⟩
  | l xs => obtain ⟨A, c, h1, h2⟩ := h; exact ⟨A, c, h1, PartsS.more (PartsS.keep h2 (fun p hp => hb.cell hp)) (fun b hb' => Nat.lt_of_lt_of_le hb' hb.size)⟩
  | two x y => obtain ⟨a, b, h1, h2, h3⟩ := h; exact ⟨a, b, h1, h2.on hb, h3.on hb⟩
  | rows ps =>
    obtain ⟨b, h1, h2, h3⟩ := h
    refine ⟨b, h1, Nat.lt_of_lt_of_le h2 hb.size, fun i p hp => ?_⟩
    obtain ⟨x, y, l1, l2, r1, r2⟩ := h3 i p hp
    exact ⟨x, y, l1.keep (fun q hq => hb.cell (by rw [hq]; exact h2)), l2.keep (fun q hq => hb.cell (by rw [hq]; exact h2)), r1.on hb, r2.on hb⟩
  | any => trivial
theorem Ex.fifteen {w : World} {S : Nat → Prop} {x : Ex} {v : List Value} (h : RdES w S x v) : ∃ c0 c1 c2 c3 c4 c5 c6 c7 c8 c9 c10 c11 c12 c13 c14, v = [c0, c1, c2, c3, c4, c5, c6, c7, c8, c9, c10, c11, c12, c13, c14] ∧ ∀ u ∈ v, u.oneCell' = true := by
  obtain ⟨h1, h2⟩ := h.fifteen
  match v, h1, h2 with
  | [c0, c1, c2, c3, c4, c5, c6, c7, c8, c9, c10, c11, c12, c13, c14], _, h2 => exact ⟨c0, c1, c2, c3, c4, c5, c6, c7, c8, c9, c10, c11, c12, c13, c14, rfl, h2⟩
section
variable {dsts : List Nat} {kd : Nat → K} {C : World → Prop} {Q : Exit → Act → World → Prop} {b0 : Act} {pos : String} {aft : Array Edge}
/- How an operation ends that makes what lasts. -/
theorem to_of (hCm : ∀ W W', C W → Below W.heap.size W W' → C W') {o : Oper} {d : Nat} {ns : List Nat} (ho : o.dst = some d)
    (h : ∀ (b : Act) (w : World), C w → (∀ d, d ∉ dsts → b.tmps.getD d undef = b0.tmps.getD d undef) → (∀ d ∈ ns, Sat (kd d) (b.tmps.getD d undef) w) → ∀ X : Act → World → Prop, (∀ v w', Below w.heap.size w w' → Sat (kd d) v w' → X (b.put (some d) v) w') → o.wp Tryz.prog b w X Q) :
    OpTo Tryz.prog dsts (fun d => Sat (kd d)) C Q b0 o ns := by
  intro b w hC hf hn
  refine h b w hC hf hn _ fun v w' hb hv => ⟨hCm _ _ hC hb, fun _ _ h => h.on hb, v, by rw [ho], fun d' e => ?_⟩
  rw [ho] at e
  injection e with e; subst e; exact hv
set_option maxRecDepth 100000 in
set_option maxHeartbeats 1000000 in
theorem to_load (hCm : ∀ W W', C W → Below W.heap.size W W' → C W') {s d bl : Nat} {x : Ex} (hd : kd d = .e x) (hs : s ∉ dsts) (h0 : b0.tmps.getD s undef = .pointer (some ⟨bl, 0, none⟩)) (hl : ∀ W, C W → ∃ y, Lie W bl 0 y ∧ RdE W W.heap.size x y) {ns : List Nat} :
    OpTo Tryz.prog dsts (fun d => Sat (kd d)) C Q b0 { dst := some d, op := .load 32 (.tmp s), type := 32, pos := pos, after := aft, guard := none } ns := by
  refine to_of hCm rfl fun b w hC hf _ X hX => ?_
  have hb := (hf s hs).trans h0
  rw [Array.getD_eq_getD_getElem?] at hb
  obtain ⟨y, hy, hx⟩ := hl w hC
  have HX := Lib.hid hx
  obtain ⟨y0, y1, y2, y3, y4, y5, y6, y7, y8, y9, y10, y11, y12, y13, y14, rfl, h1c⟩ := Ex.fifteen hx
  have q0 := hy 0 _ rfl
  have q1 := hy 1 _ rfl
  have q2 := hy 2 _ rfl
  have q3 := hy 3 _ rfl
  have q4 := hy 4 _ rfl
  have q5 := hy 5 _ rfl
  have q6 := hy 6 _ rfl
  have q7 := hy 7 _ rfl
  have q8 := hy 8 _ rfl
  have q9 := hy 9 _ rfl
  have q10 := hy 10 _ rfl
  have q11 := hy 11 _ rfl
  have q12 := hy 12 _ rfl
  have q13 := hy 13 _ rfl
  have q14 := hy 14 _ rfl
  simp only [Nat.add_zero] at q0
  clear hx hy hf hl h1c
  go_simp
  exact hX _ _ (Below.refl _ _) (by rw [hd]; exact ⟨_, rfl, HX.out⟩)
end
/- A literal of rows, its cells never reckoned. -/
theorem lie_flat {w : World} {ty : TypeId} {sz : Nat} (hsz : 0 < sz) {vs : List Value} (h : ∀ v ∈ vs, v.cells.size = sz) {i : Nat} {y : List Value} (hi : vs[i]? = some (.agg y.toArray)) : Lie (w.alloc (.cells (vs.flatMap fun v => v.cells.toList).toArray ty)) w.heap.size (i * sz) y := by
  intro j u hj
  have hy : y.length = sz := by have := h _ (List.mem_of_getElem? hi); simpa [Value.cells] using this
  have hjl : j < sz := by rw [← hy]; exact (List.getElem?_eq_some_iff.1 hj).1
  have e1 : (i * sz + j) / sz = i := by rw [Nat.mul_comm, Nat.mul_add_div hsz, Nat.div_eq_of_lt hjl]; omega
  have e2 : (i * sz + j) % sz = j := by rw [Nat.mul_comm, Nat.mul_add_mod, Nat.mod_eq_of_lt hjl]
  have h1 : (vs.flatMap fun v => v.cells.toList)[i * sz + j]? = some u := by
    rw [Great.flat_get hsz vs h, e1, e2, hi]
    simpa [Value.cells] using hj
  have h2 : ∀ A : Array Value, (w.alloc (.cells A ty)).cell? ⟨w.heap.size, i * sz + j, none⟩ = A[i * sz + j]? := fun A => by simp [go_sem]
  rw [h2]
  simpa using h1
theorem Lie.split {w : World} {b off : Nat} {x y : List Value} (h : Lie w b off (x ++ y)) : Lie w b off x ∧ Lie w b (off + x.length) y := by
  refine ⟨fun j v hj => h j v ?_, fun j v hj => ?_⟩
  · rw [List.getElem?_append_left (List.getElem?_eq_some_iff.1 hj).1]; exact hj
  · have := h (x.length + j) v (by rw [List.getElem?_append_right (by omega), Nat.add_sub_cancel_left]; exact hj)
    rwa [Nat.add_assoc]
theorem wp_rows {P : Program} {t e : TypeId} {sz len : Nat} {o : Oper} {b : Act} {w : World} {X : Act → World → Prop} {R : Exit → Act → World → Prop} (vs : List Value) (parts : Array (Nat × Operand)) (ho : o.op = .buildSlice t len parts)
    (hp : (parts.map fun (i, x) => (i, b.eval x)).toList = (vs.zipIdx 0).map fun x => (x.2, x.1)) (hl : len = vs.length) (hv : ∀ v ∈ vs, v.cells.size = sz) (hsz : 0 < sz) (h0 : 0 < len) (hs : len * sz ≤ 2 ^ 24)
    (hu : P.underlying t = some (.slice e)) (hi : (P.info? e).map (·.size) = some sz) (hz : ((P.info? e).bind (·.zero)).isSome = true)
    (h : X (b.put o.dst (.slice (some ⟨w.heap.size, 0, none⟩) len len)) (w.alloc (.cells (vs.flatMap fun v => v.cells.toList).toArray e))) : o.wp P b w X R := by
  cases hie : P.info? e with
  | none => simp [hie] at hi
  | some ie =>
    simp only [hie, Option.map_some, Option.some.injEq, Option.bind_some] at hi hz
    obtain ⟨z, hzz⟩ := Option.isSome_iff_exists.1 hz
    have hpos : 0 < len * sz := Nat.mul_pos h0 hsz
    refine wp_buildSlice t e len parts ho _ ie z hu hie hzz (by rw [hi]; omega) (by rw [hi]; omega) ?_ h
    rw [hp, hi]
    exact Great.fill_whole hsz vs _ hv (by simp [hl])
theorem wp_arr {P : Program} {t e : TypeId} {sz len n : Nat} {o : Oper} {b : Act} {w : World} {X : Act → World → Prop} {R : Exit → Act → World → Prop} (vs : List Value) (parts : Array (Nat × Operand)) (ho : o.op = .build t parts)
    (hp : (parts.map fun (i, x) => (i, b.eval x)).toList = (vs.zipIdx 0).map fun x => (x.2, x.1)) (hl : len = vs.length) (hv : ∀ v ∈ vs, v.cells.size = sz) (hsz : 0 < sz)
    (hu : P.underlying t = some (.array n e)) (hi : (P.info? e).map (·.size) = some sz) (hz : ((P.info? t).bind (·.zero)).map (·.cells.size) = some (len * sz))
    (h : X (b.put o.dst (.agg (vs.flatMap fun v => v.cells.toList).toArray)) w) : o.wp P b w X R := by
  cases hie : P.info? e with
  | none => simp [hie] at hi
  | some ie =>
    simp only [hie, Option.map_some, Option.some.injEq] at hi
    cases hit : P.info? t with
    | none => simp [hit] at hz
    | some it =>
      cases hzz : it.zero with
      | none => simp [hit, hzz] at hz
      | some z =>
        simp only [hit, hzz, Option.bind_some, Option.map_some, Option.some.injEq] at hz
        have hf := Great.fill_whole hsz vs z.cells hv (by rw [hz, hl])
        have hr : (Instr.build t (parts.map fun (i, x) => (i, b.eval x))).run P w = .ok (.agg (vs.flatMap fun v => v.cells.toList).toArray) w := by
          simp [Instr.build, run_underlying hu, sizeOf, typeInfo, zeroValue, hit, hie, hzz, hi]
          have : (Array.map (fun (x : Nat × Operand) => (x.1, b.eval x.2)) parts).toList = (vs.zipIdx 0).map fun x => (x.2, x.1) := hp
          simp only [Array.toList_map] at this
          rw [this, hf]; simp
        unfold Oper.wp execOp
        simp only [ho, Sem.run_bind, hr, Result.andThen_ok]
        exact h
theorem rows_key {w : World} {ty : TypeId} {vs : List Value} (hv : ∀ v ∈ vs, v.cells.size = 30) {i : Nat} {x y : List Value} {p q : Ex} (hi : vs[i]? = some (.agg (x ++ y).toArray)) (hx : RdE w w.heap.size p x) (hy : RdE w w.heap.size q y) (hb : Below w.heap.size w (w.alloc (.cells (vs.flatMap fun v => v.cells.toList).toArray ty))) :
    ∃ x y, Lie (w.alloc (.cells (vs.flatMap fun v => v.cells.toList).toArray ty)) w.heap.size (i * 30) x ∧ Lie (w.alloc (.cells (vs.flatMap fun v => v.cells.toList).toArray ty)) w.heap.size (i * 30 + 15) y ∧ RdE (w.alloc (.cells (vs.flatMap fun v => v.cells.toList).toArray ty)) (w.alloc (.cells (vs.flatMap fun v => v.cells.toList).toArray ty)).heap.size p x ∧ RdE (w.alloc (.cells (vs.flatMap fun v => v.cells.toList).toArray ty)) (w.alloc (.cells (vs.flatMap fun v => v.cells.toList).toArray ty)).heap.size q y := by
  have h := (lie_flat (w := w) (ty := ty) (by decide) hv hi).split
  rw [hx.fifteen.1] at h
  exact ⟨x, y, h.1, h.2, hx.on hb, hy.on hb⟩
theorem cells_term {w : World} {S : Nat → Prop} {x : Ex} {y : List Value} (h : RdES w S x y) : (termOf y).cells.size = 15 := by
  unfold termOf; simpa [Value.cells] using h.fifteen.1
section
variable {dsts : List Nat} {kd : Nat → K} {C : World → Prop} {Q : Exit → Act → World → Prop} {b0 : Act} {pos : String} {aft : Array Edge}
set_option maxRecDepth 100000 in
set_option maxHeartbeats 1000000 in
theorem to_one (hCm : ∀ W W', C W → Below W.heap.size W W' → C W') {s d : Nat} {x : Ex} (hd : kd d = .l [x]) (hs : kd s = .e x) {ns : List Nat} (hns : s ∈ ns) :
    OpTo Tryz.prog dsts (fun d => Sat (kd d)) C Q b0 { dst := some d, op := .buildSlice 22 1 #[(0, .tmp s)], type := 22, pos := pos, after := aft, guard := none } ns := by
  refine to_of hCm rfl fun b w hC _ hn X hX => ?_
  obtain ⟨y, hy, hx⟩ : Sat (.e x) (b.tmps.getD s undef) w := hs ▸ hn s hns
  have hv : ∀ v ∈ [termOf y], v.cells.size = 15 := by simp [cells_term hx]
  refine wp_rows (sz := 15) (e := 32) [termOf y] _ rfl (by rw [← hy]; simp [Act.eval]) rfl hv (by decide) (by decide) (by decide) Tryz.underlying22 (by kernel_rfl) (by kernel_rfl) ?_
  have hb := (Below.refl w.heap.size w).alloc (Nat.le_refl _) (.cells ([termOf y].flatMap fun v => v.cells.toList).toArray 32)
  refine hX _ _ hb ?_
  rw [hd]
  exact ⟨_, _, rfl, .inr ⟨w.heap.size, 0, rfl, by simp, ⟨⟨_, lie_flat (i := 0) (by decide) hv rfl, hx.on hb⟩, trivial⟩⟩⟩
set_option maxRecDepth 100000 in
set_option maxHeartbeats 1000000 in
theorem to_two (hCm : ∀ W W', C W → Below W.heap.size W W' → C W') {s r d : Nat} {x z : Ex} (hd : kd d = .l [x, z]) (hs : kd s = .e x) (hr : kd r = .e z) {ns : List Nat} (hns : s ∈ ns) (hnr : r ∈ ns) :
    OpTo Tryz.prog dsts (fun d => Sat (kd d)) C Q b0 { dst := some d, op := .buildSlice 22 2 #[(0, .tmp s), (1, .tmp r)], type := 22, pos := pos, after := aft, guard := none } ns := by
  refine to_of hCm rfl fun b w hC _ hn X hX => ?_
  obtain ⟨y, hy, hx⟩ : Sat (.e x) (b.tmps.getD s undef) w := hs ▸ hn s hns
  obtain ⟨u, hu, hz⟩ : Sat (.e z) (b.tmps.getD r undef) w := hr ▸ hn r hnr
  have hv : ∀ v ∈ [termOf y, termOf u], v.cells.size = 15 := by simp [cells_term hx, cells_term hz]
  refine wp_rows (sz := 15) (e := 32) [termOf y, termOf u] _ rfl (by rw [← hy, ← hu]; simp [Act.eval]) rfl hv (by decide) (by decide) (by decide) Tryz.underlying22 (by kernel_rfl) (by kernel_rfl) ?_
  have hb := (Below.refl w.heap.size w).alloc (Nat.le_refl _) (.cells ([termOf y, termOf u].flatMap fun v => v.cells.toList).toArray 32)
  refine hX _ _ hb ?_
  rw [hd]
  exact ⟨_, _, rfl, .inr ⟨w.heap.size, 0, rfl, by simp, ⟨⟨_, lie_flat (i := 0) (by decide) hv rfl, hx.on hb⟩, ⟨_, lie_flat (i := 1) (by decide) hv rfl, hz.on hb⟩, trivial⟩⟩⟩
set_option maxRecDepth 100000 in
set_option maxHeartbeats 1000000 in
theorem to_pair (hCm : ∀ W W', C W → Below W.heap.size W W' → C W') {s r d : Nat} {x z : Ex} (hd : kd d = .two x z) (hs : kd s = .e x) (hr : kd r = .e z) {ns : List Nat} (hns : s ∈ ns) (hnr : r ∈ ns) :
    OpTo Tryz.prog dsts (fun d => Sat (kd d)) C Q b0 { dst := some d, op := .build 53 #[(0, .tmp s), (1, .tmp r)], type := 53, pos := pos, after := aft, guard := none } ns := by
  refine to_of hCm rfl fun b w hC _ hn X hX => ?_
  obtain ⟨y, hy, hx⟩ : Sat (.e x) (b.tmps.getD s undef) w := hs ▸ hn s hns
  obtain ⟨u, hu, hz⟩ : Sat (.e z) (b.tmps.getD r undef) w := hr ▸ hn r hnr
  have hv : ∀ v ∈ [termOf y, termOf u], v.cells.size = 15 := by simp [cells_term hx, cells_term hz]
  refine wp_arr (sz := 15) (e := 32) [termOf y, termOf u] _ rfl (by rw [← hy, ← hu]; simp [Act.eval]) rfl hv (by decide) Tryz.underlying53 (by kernel_rfl) (by kernel_rfl) ?_
  refine hX _ _ (Below.refl _ _) ?_
  rw [hd]
  exact ⟨y, u, by simp [termOf, Value.cells], hx, hz⟩
set_option maxRecDepth 100000 in
set_option maxHeartbeats 1000000 in
theorem to_call (hCm : ∀ W W', C W → Below W.heap.size W W' → C W') {s d : Nat} {l : List Ex} {nm : ByteArray} (hd : kd d = .e (.mk nm 0 l ⟨#[]⟩ zeroTm)) (hs : kd s = .l l) (hnm : nm.size ≤ 140737488351232) (hll : l.length * 216 ≤ 140737488351232) {ns : List Nat} (hns : s ∈ ns) :
    OpTo Tryz.prog dsts (fun d => Sat (kd d)) C Q b0 { dst := some d, op := .call { callee := .value (.func 13), args := #[.const (.string nm), .tmp s], argTypes := #[9, 22] }, type := 32, pos := pos, after := aft, guard := none } ns := by
  refine to_of hCm rfl fun b w hC _ hn X hX => ?_
  obtain ⟨A, c, hy, hp⟩ : Sat (.l l) (b.tmps.getD s undef) w := hs ▸ hn s hns
  rw [Array.getD_eq_getD_getElem?] at hy
  have HO := Lib.hid (op_any nm A l c _ w (fun b h => h) hnm hll hp)
  go_simp
  refine HO.out.mono ?_
  rintro e w1 ⟨u, rfl, hu, hb⟩
  exact hX _ _ hb (by rw [hd]; exact ⟨u, rfl, RdES.more (fun b h => h.elim (fun h => Nat.lt_of_lt_of_le h hb.size) (fun h => h.2)) _ _ hu⟩)
set_option maxRecDepth 100000 in
set_option maxHeartbeats 1000000 in
theorem to_call2 (hCm : ∀ W W', C W → Below W.heap.size W W' → C W') {s d : Nat} {l : List Ex} {nm : ByteArray} (hd : kd d = .e (.mk oCall 0 l nm zeroTm)) (hs : kd s = .l l) (hnm : nm.size ≤ 140737488351232) (hll : l.length * 216 ≤ 140737488351232) {ns : List Nat} (hns : s ∈ ns) :
    OpTo Tryz.prog dsts (fun d => Sat (kd d)) C Q b0 { dst := some d, op := .call { callee := .value (.func 14), args := #[.const (.string nm), .tmp s], argTypes := #[9, 22] }, type := 32, pos := pos, after := aft, guard := none } ns := by
  refine to_of hCm rfl fun b w hC _ hn X hX => ?_
  obtain ⟨A, c, hy, hp⟩ : Sat (.l l) (b.tmps.getD s undef) w := hs ▸ hn s hns
  rw [Array.getD_eq_getD_getElem?] at hy
  have HO := Lib.hid (exCall_any nm A l c _ w (fun b h => h) hnm hll hp)
  go_simp
  refine HO.out.mono ?_
  rintro e w1 ⟨u, rfl, hu, hb⟩
  exact hX _ _ hb (by rw [hd]; exact ⟨u, rfl, RdES.more (fun b h => h.elim (fun h => Nat.lt_of_lt_of_le h hb.size) (fun h => h.2)) _ _ hu⟩)
set_option maxRecDepth 100000 in
set_option maxHeartbeats 1000000 in
theorem to_self (hCm : ∀ W W', C W → Below W.heap.size W W' → C W') {d : Nat} {nm : ByteArray} (hd : kd d = .e (.mk nm 0 [] ⟨#[]⟩ zeroTm)) (hnm : nm.size ≤ 140737488351232) {ns : List Nat} :
    OpTo Tryz.prog dsts (fun d => Sat (kd d)) C Q b0 { dst := some d, op := .build 32 #[(0, .const (.string nm))], type := 32, pos := pos, after := aft, guard := none } ns := by
  refine to_of hCm rfl fun b w hC _ hn X hX => ?_
  go_simp
  refine hX _ _ (Below.refl _ _) ?_
  rw [hd]
  exact ⟨[.string nm, .int .i64 0, .slice none 0 0, .string ⟨#[]⟩, .int .i64 0, .bool false, .int .i64 0, .float .f64 0, .string ⟨#[]⟩, .slice none 0 0, .int .u64 0, .slice none 0 0, .slice none 0 0, .string ⟨#[]⟩, .int .i64 0], rfl, ⟨none, 0, _, rfl, hnm, ⟨by decide, by decide⟩, by decide, zeroTm_rd _ _, by decide, .inl rfl⟩⟩
set_option maxRecDepth 100000 in
set_option maxHeartbeats 1000000 in
theorem to_rows (hCm : ∀ W W', C W → Below W.heap.size W W' → C W') {s0 s1 s2 s3 s4 s5 d : Nat} {p0 p1 p2 p3 p4 p5 : Ex × Ex} (hd : kd d = .rows [p0, p1, p2, p3, p4, p5]) (h0 : kd s0 = .two p0.1 p0.2) (h1 : kd s1 = .two p1.1 p1.2) (h2 : kd s2 = .two p2.1 p2.2) (h3 : kd s3 = .two p3.1 p3.2) (h4 : kd s4 = .two p4.1 p4.2) (h5 : kd s5 = .two p5.1 p5.2) {ns : List Nat} (hns : ns = [s0, s1, s2, s3, s4, s5]) :
    OpTo Tryz.prog dsts (fun d => Sat (kd d)) C Q b0 { dst := some d, op := .buildSlice 54 6 #[(0, .tmp s0), (1, .tmp s1), (2, .tmp s2), (3, .tmp s3), (4, .tmp s4), (5, .tmp s5)], type := 54, pos := pos, after := aft, guard := none } ns := by
  refine to_of hCm rfl fun b w hC _ hn X hX => ?_
  subst hns
  obtain ⟨x0, y0, e0, a0, c0⟩ : Sat (.two p0.1 p0.2) (b.tmps.getD s0 undef) w := h0 ▸ hn s0 (by simp)
  obtain ⟨x1, y1, e1, a1, c1⟩ : Sat (.two p1.1 p1.2) (b.tmps.getD s1 undef) w := h1 ▸ hn s1 (by simp)
  obtain ⟨x2, y2, e2, a2, c2⟩ : Sat (.two p2.1 p2.2) (b.tmps.getD s2 undef) w := h2 ▸ hn s2 (by simp)
  obtain ⟨x3, y3, e3, a3, c3⟩ : Sat (.two p3.1 p3.2) (b.tmps.getD s3 undef) w := h3 ▸ hn s3 (by simp)
  obtain ⟨x4, y4, e4, a4, c4⟩ : Sat (.two p4.1 p4.2) (b.tmps.getD s4 undef) w := h4 ▸ hn s4 (by simp)
  obtain ⟨x5, y5, e5, a5, c5⟩ : Sat (.two p5.1 p5.2) (b.tmps.getD s5 undef) w := h5 ▸ hn s5 (by simp)
  have hv : ∀ v ∈ [Value.agg (x0 ++ y0).toArray, .agg (x1 ++ y1).toArray, .agg (x2 ++ y2).toArray, .agg (x3 ++ y3).toArray, .agg (x4 ++ y4).toArray, .agg (x5 ++ y5).toArray], v.cells.size = 30 := by
    intro v hv
    simp only [List.mem_cons, List.mem_nil_iff, or_false] at hv
    rcases hv with rfl | rfl | rfl | rfl | rfl | rfl
    · simp [Value.cells, a0.fifteen.1, c0.fifteen.1]
    · simp [Value.cells, a1.fifteen.1, c1.fifteen.1]
    · simp [Value.cells, a2.fifteen.1, c2.fifteen.1]
    · simp [Value.cells, a3.fifteen.1, c3.fifteen.1]
    · simp [Value.cells, a4.fifteen.1, c4.fifteen.1]
    · simp [Value.cells, a5.fifteen.1, c5.fifteen.1]
  refine wp_rows (sz := 30) (e := 53) [Value.agg (x0 ++ y0).toArray, .agg (x1 ++ y1).toArray, .agg (x2 ++ y2).toArray, .agg (x3 ++ y3).toArray, .agg (x4 ++ y4).toArray, .agg (x5 ++ y5).toArray] _ rfl (by rw [← e0, ← e1, ← e2, ← e3, ← e4, ← e5]; simp [Act.eval]) rfl hv (by decide) (by decide) (by decide) Tryz.underlying54 (by kernel_rfl) (by kernel_rfl) ?_
  have hb := (Below.refl w.heap.size w).alloc (Nat.le_refl _) (.cells ([Value.agg (x0 ++ y0).toArray, .agg (x1 ++ y1).toArray, .agg (x2 ++ y2).toArray, .agg (x3 ++ y3).toArray, .agg (x4 ++ y4).toArray, .agg (x5 ++ y5).toArray].flatMap fun v => v.cells.toList).toArray 53)
  refine hX _ _ hb ?_
  rw [hd]
  refine ⟨w.heap.size, rfl, by simp, fun i p hp => ?_⟩
  match i, hp with
  | 0, hp => injection hp with hp; subst hp; exact rows_key (i := 0) (x := x0) (y := y0) hv rfl a0 c0 hb
  | 1, hp => injection hp with hp; subst hp; exact rows_key (i := 1) (x := x1) (y := y1) hv rfl a1 c1 hb
  | 2, hp => injection hp with hp; subst hp; exact rows_key (i := 2) (x := x2) (y := y2) hv rfl a2 c2 hb
  | 3, hp => injection hp with hp; subst hp; exact rows_key (i := 3) (x := x3) (y := y3) hv rfl a3 c3 hb
  | 4, hp => injection hp with hp; subst hp; exact rows_key (i := 4) (x := x4) (y := y4) hv rfl a4 c4 hb
  | 5, hp => injection hp with hp; subst hp; exact rows_key (i := 5) (x := x5) (y := y5) hv rfl a5 c5 hb
  | i + 6, hp => simp at hp
set_option maxRecDepth 100000 in
set_option maxHeartbeats 1000000 in
theorem to_assign (hCm : ∀ W W', C W → Below W.heap.size W W' → C W') {s d : Nat} {ty : TypeId} (hd : kd d = kd s) {ns : List Nat} (hns : s ∈ ns) :
    OpTo Tryz.prog dsts (fun d => Sat (kd d)) C Q b0 { dst := some d, op := .assign (.tmp s), type := ty, pos := pos, after := aft, guard := none } ns := by
  refine to_of hCm rfl fun b w hC _ hn X hX => ?_
  have h : Sat (kd s) (b.tmps.getD s undef) w := hn s hns
  go_simp
  exact hX _ _ (Below.refl _ _) (by rw [hd]; simpa using h)
end
end Go.Proofs.YtbemeapjeipjlaaGreatDoor
