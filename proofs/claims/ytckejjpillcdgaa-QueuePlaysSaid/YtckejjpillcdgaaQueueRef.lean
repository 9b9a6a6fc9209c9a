/- The document's row: Put and Take. -/
import Derived.Test.YtckejjpillcdgaaQueueLaw
import Derived.Deep.RegionHeld
import Derived.Laws.Tables
import Derived.Laws.CopyOwn
namespace Go.Proofs.Ytckejjpillcdgaa
open Go.RowKit
set_option linter.unusedVariables false
set_option linter.unusedSimpArgs false

theorem results_cell_tmp_row {P : Program} {fn : Func} {p u : Tmp} {ty : TypeId} (h : fn.results = #[.cell p ty, .tmp u]) (tmps : Array Value) (w : World) (g : Nat) (t : TypeId) (cs : Array Value) (fr : Nat × Nat) (d : TypeDesc)
    (hp : tmps.getD p undef = .pointer (some ⟨g, 0, none⟩)) (hg : w.heap[g]? = some (.cells cs t fr))
    (hu : P.underlying ty = some d) (hd : (match d with | .struct _ | .array _ _ => true | _ => false) = true) (hi : (P.info? ty).map (·.size) = some cs.size) :
    (results fn tmps).run P w = .ok (.tuple #[.agg cs, tmps.getD u undef]) w := by
  have hp' : tmps[p]?.getD undef = .pointer (some ⟨g, 0, none⟩) := by simpa using hp
  simp [results, h, hp', asAddr, run_loadVar_row w g t ty cs fr d hg hu hd hi]
theorem results_cell_tmp2_row {P : Program} {fn : Func} {p u u2 : Tmp} {ty : TypeId} (h : fn.results = #[.cell p ty, .tmp u, .tmp u2]) (tmps : Array Value) (w : World) (g : Nat) (t : TypeId) (cs : Array Value) (fr : Nat × Nat) (d : TypeDesc)
    (hp : tmps.getD p undef = .pointer (some ⟨g, 0, none⟩)) (hg : w.heap[g]? = some (.cells cs t fr))
    (hu : P.underlying ty = some d) (hd : (match d with | .struct _ | .array _ _ => true | _ => false) = true) (hi : (P.info? ty).map (·.size) = some cs.size) :
    (results fn tmps).run P w = .ok (.tuple #[.agg cs, tmps.getD u undef, tmps.getD u2 undef]) w := by
  have hp' : tmps[p]?.getD undef = .pointer (some ⟨g, 0, none⟩) := by simpa using hp
  simp [results, h, hp', asAddr, run_loadVar_row w g t ty cs fr d hg hu hd hi]

/-- append(s, x) in a region that draws. -/
theorem opApp1 {P : Program} {o : Oper} {a : Act} {K : Act → World → Prop} {Q : Exit → Act → World → Prop} {wr : World} (s x : Operand) (t : TypeId)
    (ho : o.op = .call { callee := .builtin .append, args := #[s, x], argTypes := #[t, t] })
    (base : Nat) (e : TypeId) (z : Value) (bytes : Nat) (hel : El P t e z 1 bytes) (hzs : z.cells.size = 1)
    (v : Value) (n : Nat) (xs : List Value) (hs : a.eval s = v) (hown : wr.ownsRow base e 1 v n xs)
    (u : Value) (hx : a.eval x = .slice (some ⟨wr.heap.size, 0, none⟩) 1 1) (h1 : u.oneCell' = true)
    (hn : n + 1 ≤ maxLen) (hby : (n + 1) * bytes ≤ 140737488355328) (hbase : base ≤ wr.heap.size)
    (h : ∀ v' w', w'.ownsRow base e 1 v' (n + 1) (xs ++ [u]) → wr.grownBy w' v.ownBlock → Below base wr w' → K (a.put o.dst v') w') :
    o.wp P a (wr.alloc (.cells #[u] e)) K Q := by
  obtain ⟨ht, hinfo⟩ := hel
  obtain ⟨i, hi, hz0, hz1, hz2⟩ := info_parts hinfo
  refine wp_append_own (wr.alloc (.cells #[u] e)) s x t ho base e i z 1 bytes ht hi hz0 hz1 hz2 hzs (by decide) v n xs hs (hown.alloc _) ⟨wr.heap.size, 0, none⟩ 1 1 [u] hx rfl ?_ ?_ hn hby (by simp; omega) ?_
  · intro j u' hj
    match j, hj with
    | 0, hj => simp at hj; subst hj; simp [Addr.add]
    | j + 1, hj => simp at hj
  · intro u' hu'; simp at hu'; subst hu'; exact h1
  · intro v' w' hown' hg _
    have hg' : wr.grownBy w' v.ownBlock := ⟨hg.os, hg.tape, hg.output, Nat.le_trans (by simp) hg.size, fun k hk hne => (hg.block k (by simp; omega) hne).trans (Below.heap_alloc wr _ k hk)⟩
    exact h v' w' hown' hg' ((Below.refl base wr).grown hg' hbase (fun k hk => (hown.lt k hk).1))

theorem grownBy_setRow (w : World) (g : Nat) (cs : Array Value) : w.grownBy (w.setRow g cs) (some g) :=
  ⟨rfl, rfl, rfl, by simp, fun k _ hne => setRow_other w g k cs (fun e => hne (by rw [e]))⟩
theorem ownsRow_setRow_below {w : World} {base : Nat} {e : TypeId} {size : Nat} {v : Value} {n : Nat} {xs : List Value} (h : w.ownsRow base e size v n xs) {g : Nat} (hg : g < base) (cs : Array Value) : (w.setRow g cs).ownsRow base e size v n xs := by
  refine h.kept (grownBy_setRow w g cs) ?_
  cases hv : v.ownBlock with
  | none => exact .inl rfl
  | some k => exact .inr (fun e => by have := (h.lt k hv).1; injection e with e; omega)

set_option maxHeartbeats 800000 in
theorem rput_full (p : Option Addr) (n cp : Nat) (room x : Int) (w : World) (h : room ≤ n) (hn : n ≤ 1000000) :
    Calls Try.prog 12 #[.agg #[.slice p n cp, .int .i64 room], .int .i64 x] w fun e w' => e = .returned (.tuple #[.agg #[.slice p n cp, .int .i64 room], .bool false]) ∧ Below w.heap.size w w' := by
  go_enter Try.func12, Try.ntmps12
  go_wp2
  exact bodyPost_ret (results_cell_tmp_row rfl _ _ (w.heap.size + 1) 36 #[.slice p n cp, .int .i64 room] (0, 0) _ rfl (by have := heap_alloc_new (w.alloc (.cells #[.slice p n cp, .int .i64 room] 36)) (.cells #[.slice p n cp, .int .i64 room] 36); simpa using this) Try.underlying36 rfl (by kernel_rfl)) rfl ⟨rfl, below_alloc (below_alloc (Below.refl _ _) _) _⟩

set_option maxHeartbeats 800000 in
theorem rput_room (p : Option Addr) (zs : List Int) (cp : Nat) (room x : Int) (w : World) (hr : Rds w 1 p zs.length (vals_int zs)) (hpn : p = none → cp = 0) (h : (zs.length : Int) < room) (hn : zs.length ≤ 1000000) :
    Calls Try.prog 12 #[.agg #[.slice p zs.length cp, .int .i64 room], .int .i64 x] w fun e w' => ∃ g' c', e = .returned (.tuple #[.agg #[.slice (some ⟨g', 0, none⟩) (zs.length + 1) c', .int .i64 room], .bool true]) ∧ Rds w' 1 (some ⟨g', 0, none⟩) (zs.length + 1) (vals_int (zs ++ [x])) ∧ zs.length + 1 ≤ c' ∧ c' ≤ 9223372036854775807 ∧ w.heap.size ≤ g' ∧ Below w.heap.size w w' := by
  have hb3 : Below w.heap.size w (((w.alloc (.cells #[.slice p zs.length cp, .int .i64 room] 36)).alloc (.cells #[.slice none 0 0, .int .i64 0] 36)).alloc (.cells #[] 3)) := below_alloc (below_alloc (below_alloc (Below.refl _ _) _) _) _
  have HR := Lib.hid (hr.below hb3)
  have HPN := Lib.hid hpn
  have HB3 := Lib.hid hb3
  have hown0 := World.ownsRow_lit (base := w.heap.size + 2) (e := 3) (size := 1) ((w.alloc (.cells #[.slice p zs.length cp, .int .i64 room] 36)).alloc (.cells #[.slice none 0 0, .int .i64 0] 36)) #[] 0 (by simp) (by unfold maxLen; omega) rfl
  rw [World.size_alloc, World.size_alloc] at hown0
  have HOWN := Lib.hid hown0
  clear hr hpn hb3 hown0
  go_enter Try.func12, Try.ntmps12
  go_wp2_with (at_builtin; refine appOwn rfl _ _ 22 rfl (w.heap.size + 2) 3 (.int .i64 0) 8 el_int rfl _ _ _ rfl HOWN.out p _ cp (vals_int zs) rfl HR.out HPN.out ?d1 ?d2 ?d3 ?d4 ?_)
  case d1 => intro u hu; simp only [vals_int, List.mem_map] at hu; obtain ⟨z, _, rfl⟩ := hu; rfl
  case d2 => unfold maxLen; omega
  case d3 => omega
  try (case d4 => simp)
  intro v' w1 ho hg hb
  obtain ⟨p1, q1, rfl⟩ := own_shape' ho
  have hA := ((Blk.new w 36 [.slice p zs.length cp, .int .i64 room]).alloc (.cells #[.slice none 0 0, .int .i64 0] 36)).alloc (.cells #[] 3)
  have hB : Blk (((w.alloc (.cells #[.slice p zs.length cp, .int .i64 room] 36)).alloc (.cells #[.slice none 0 0, .int .i64 0] 36)).alloc (.cells #[] 3)) 36 (w.heap.size + 1) [.slice none 0 0, .int .i64 0] := by
    have := (Blk.new (w.alloc (.cells #[.slice p zs.length cp, .int .i64 room] 36)) 36 [.slice none 0 0, .int .i64 0]).alloc (.cells #[] 3)
    rw [World.size_alloc] at this
    exact this
  have c1 : w1.drew.cell? ⟨w.heap.size, 1, none⟩ = some (.int .i64 room) := (hA.belowB hb (by omega)).cell 1
  have HB1 := Lib.hid (hB.belowB hb (by omega))
  have HO := Lib.hid (show w1.drew.ownsRow (w.heap.size + 2) 3 1 (.slice p1 zs.length q1) zs.length (vals_int zs) from (show w1.ownsRow (w.heap.size + 2) 3 1 (.slice p1 zs.length q1) zs.length (vals_int zs) from by simpa using ho))
  have HW := Lib.hid (show Below w.heap.size w w1.drew from (HB3.out.trans (hb.mono (by omega))).drew)
  have HSZ := Lib.hid (show w.heap.size + 2 ≤ w1.drew.heap.size from Nat.le_trans (by simp) hb.size)
  clear ho hg hb hA hB
  go_wp2_with fail
  refine wp_region_held_drew (S := (fun w' => w'.cell? ⟨w.heap.size, 1, none⟩ = some (.int .i64 room))) (by kernel_rfl) (by (try dsimp only); exact c1) (fun hHeld => ?_)
  refine wpAnyH_take (i := 0) (oi := ⟨some 18, _, _, _, _, _⟩) (v := ?_) rfl (by kernel_rfl) (by kernel_rfl) (by kernel_rfl) (fun _ _ _ h => h) (Or.inl ⟨by rfl, ?_⟩) (by assumption) ?_
  rotate_left
  · (intro w hSw; (try dsimp only at hSw); go_simp; try with_reducible rfl)
  simp only [Act.put, List.setIfInBounds_toArray, List.set_cons_zero, List.set_cons_succ]
  refine wpAnyH_take (i := 1) (oi := ⟨some 19, _, _, _, _, _⟩) (v := ?_) rfl (by kernel_rfl) (by kernel_rfl) (by kernel_rfl) (fun _ _ _ h => h) (Or.inl ⟨by rfl, ?_⟩) (by assumption) ?_
  rotate_left
  · (intro w hSw; (try dsimp only at hSw); go_simp; try with_reducible rfl)
  simp only [Act.put, List.setIfInBounds_toArray, List.set_cons_zero, List.set_cons_succ]
  refine wpAnyH_take (i := 4) (oi := ⟨some 22, _, _, _, _, _⟩) (v := ?_) rfl (by kernel_rfl) (by kernel_rfl) (by kernel_rfl) (fun _ _ _ h => h) (Or.inl ⟨by rfl, ?_⟩) (by assumption) ?_
  rotate_left
  · (intro w hSw; (try dsimp only at hSw); go_simp; try with_reducible rfl)
  simp only [Act.put, List.setIfInBounds_toArray, List.set_cons_zero, List.set_cons_succ]
  refine wpAnyH_take (i := 5) (oi := ⟨some 23, _, _, _, _, _⟩) (v := ?_) rfl (by kernel_rfl) (by kernel_rfl) (by kernel_rfl) (fun _ _ _ h => h) (Or.inl ⟨by rfl, ?_⟩) (by assumption) ?_
  rotate_left
  · (intro w hSw; (try dsimp only at hSw); go_simp; try with_reducible rfl)
  simp only [Act.put, List.setIfInBounds_toArray, List.set_cons_zero, List.set_cons_succ]
  refine wpAnyH_ready (rs := [2]) (by kernel_rfl) (by simp) ?_
  refine AllReadyH.cons (o := ⟨some 20, _, _, _, _, _⟩) rfl (fun K hK => ?_) AllReadyH.nil
  go_simp
  refine hK.out _ _ (by (try dsimp only); exact cell_alloc c1 _) ?_
  clear hK K hHeld
  intro hHeld
  try simp only [Act.put, List.setIfInBounds_toArray, List.set_cons_zero, List.set_cons_succ]
  refine wpAnyH_ready (rs := [3]) (by kernel_rfl) (by simp) ?_
  refine AllReadyH.cons (o := ⟨some 21, _, _, _, _, _⟩) rfl (fun K hK => ?_) AllReadyH.nil
  rw [if_pos (by rfl)]
  refine opApp1 (.tmp 18) (.tmp 20) 22 rfl (w.heap.size + 2) 3 (.int .i64 0) 8 el_int rfl _ _ _ rfl HO.out (.int .i64 x) rfl rfl (by unfold maxLen; omega) (by omega) HSZ.out ?_
  intro v2 w2 ho2 hg2 hb2
  obtain ⟨g2, c2, rfl, hg2a, hg2b, hc2a, hc2b, _⟩ := own_open ho2 (by omega)
  have HC2 := Lib.hid (show zs.length + 1 ≤ c2 ∧ c2 ≤ 9223372036854775807 from ⟨hc2a, by unfold maxLen at hc2b; omega⟩)
  clear hc2a hc2b
  have c1' : w2.cell? ⟨w.heap.size, 1, none⟩ = some (.int .i64 room) := (hb2.cell (p := ⟨w.heap.size, 1, none⟩) (by simp)).trans c1
  have HB2 := Lib.hid ((show Blk w1.drew 36 (w.heap.size + 1) [.slice none 0 0, .int .i64 0] from HB1.out).belowB hb2 (by omega))
  have HO2 := Lib.hid ho2
  have HW2 := Lib.hid (HW.out.trans (hb2.mono (by omega)))
  clear ho2 hg2 hb2
  refine hK.out _ _ (by (try dsimp only); exact c1') ?_
  clear hK K hHeld
  intro hHeld
  try simp only [Act.put, List.setIfInBounds_toArray, List.set_cons_zero, List.set_cons_succ]
  refine wpAnyH_take (i := 6) (oi := ⟨some 24, _, _, _, _, _⟩) (v := ?_) rfl (by kernel_rfl) (by kernel_rfl) (by kernel_rfl) (fun _ _ _ h => h) (Or.inl ⟨by rfl, ?_⟩) (by assumption) ?_
  rotate_left
  · (intro w hSw; (try dsimp only at hSw); go_simp; try with_reducible rfl)
  simp only [Act.put, List.setIfInBounds_toArray, List.set_cons_zero, List.set_cons_succ]
  refine wpAnyH_ready (rs := [7]) (by kernel_rfl) (by simp) ?_
  refine AllReadyH.cons (o := ⟨none, _, _, _, _, _⟩) rfl (fun K hK => ?_) AllReadyH.nil
  rw [if_pos (by rfl)]
  refine wp_store_row 36 (.tmp 4) (.tmp 24) rfl (w.heap.size + 1) #[.slice (some ⟨g2, 0, none⟩) (zs.length + 1) c2, .int .i64 room] rfl rfl 36 _ HB2.out (by kernel_rfl) rfl (by kernel_rfl) ?_
  refine hK.out _ _ (by (try dsimp only); rw [cell_setRow_other _ _ _ _ (by simp)]; exact c1') ?_
  clear hK K hHeld
  intro hHeld
  try simp only [Act.put, List.setIfInBounds_toArray, List.set_cons_zero, List.set_cons_succ]
  refine wpAnyH_take (i := 8) (oi := ⟨some 5, _, _, _, _, _⟩) (v := ?_) rfl (by kernel_rfl) (by kernel_rfl) (by kernel_rfl) (fun _ _ _ h => h) (Or.inl ⟨by rfl, ?_⟩) (by assumption) ?_
  rotate_left
  · (intro w hSw; (try dsimp only at hSw); go_simp; try with_reducible rfl)
  simp only [Act.put, List.setIfInBounds_toArray, List.set_cons_zero, List.set_cons_succ]
  refine wpAnyH_done (by kernel_rfl) ?_ _
  go_wp2
  have hrow := ownsRow_setRow_below HO2.out (g := w.heap.size + 1) (by omega) #[.slice (some ⟨g2, 0, none⟩) (zs.length + 1) c2, .int .i64 room]
  obtain ⟨p5, c5, e5, hr5, _, _⟩ := Rds.of_read (readRow_own hrow)
  injection e5 with e5 _ e6
  subst e5 e6
  refine bodyPost_ret (results_cell_tmp_row rfl _ _ (w.heap.size + 1) 36 #[.slice (some ⟨g2, 0, none⟩) (zs.length + 1) c2, .int .i64 room] (0, 0) _ rfl (setRow_heap _ _ _ _ _ _ HB2.out) Try.underlying36 rfl (by kernel_rfl)) rfl ⟨g2, c2, rfl, ?_, HC2.out.1, HC2.out.2, by omega, ?_⟩
  · rw [vals_snoc_int]; exact hr5
  · exact below_setRow HW2.out (by omega) _

set_option maxHeartbeats 800000 in
theorem rtake_none (p : Option Addr) (cp : Nat) (room : Int) (w : World) :
    Calls Try.prog 13 #[.agg #[.slice p 0 cp, .int .i64 room]] w fun e w' => e = .returned (.tuple #[.agg #[.slice p 0 cp, .int .i64 room], .int .i64 0, .bool false]) ∧ Below w.heap.size w w' := by
  go_enter Try.func13, Try.ntmps13
  go_wp2
  exact bodyPost_ret (results_cell_tmp2_row rfl _ _ (w.heap.size + 1) 36 #[.slice p 0 cp, .int .i64 room] (0, 0) _ rfl (by have := heap_alloc_new (w.alloc (.cells #[.slice p 0 cp, .int .i64 room] 36)) (.cells #[.slice p 0 cp, .int .i64 room] 36); simpa using this) Try.underlying36 rfl (by kernel_rfl)) rfl ⟨rfl, below_alloc (below_alloc (Below.refl _ _) _) _⟩

set_option maxHeartbeats 1600000 in
theorem rtake_one (p : Option Addr) (z : Int) (room : Int) (w : World) (hr : Rds w 1 p 1 (vals_int [z])) :
    Calls Try.prog 13 #[.agg #[.slice p 1 1, .int .i64 room]] w fun e w' => ∃ ad c', e = .returned (.tuple #[.agg #[.slice (some ad) 0 c', .int .i64 room], .int .i64 z, .bool true]) ∧ Rds w' 1 (some ad) 0 (vals_int []) ∧ (∀ a0, p = some a0 → ad.block = a0.block) ∧ c' ≤ 9223372036854775807 ∧ Below w.heap.size w w' := by
  obtain ⟨g, off, rfl, hc⟩ := hr.2 (by omega)
  have hz0 : w.cell? ⟨g, off, none⟩ = some (.int .i64 z) := hc 0 (by omega)
  have hg := World.block_lt_of_cell? w _ hz0
  have hgw : g < w.heap.size := hg
  have hbb : Below w.heap.size w ((w.alloc (.cells #[.slice (some ⟨g, off, none⟩) 1 1, .int .i64 room] 36)).alloc (.cells #[.slice none 0 0, .int .i64 0] 36)) := below_alloc (below_alloc (Below.refl _ _) _) _
  have hz := (hbb.cell (p := ⟨g, off, none⟩) hgw).trans hz0
  have hA := (Blk.new w 36 [.slice (some ⟨g, off, none⟩) 1 1, .int .i64 room]).alloc (.cells #[.slice none 0 0, .int .i64 0] 36)
  have hB := Blk.new (w.alloc (.cells #[.slice (some ⟨g, off, none⟩) 1 1, .int .i64 room] 36)) 36 [.slice none 0 0, .int .i64 0]
  rw [World.size_alloc] at hB
  have a0 := hA.cell 0
  have a1 := hA.cell 1
  simp only [List.getElem?_cons_zero, List.getElem?_cons_succ] at a0 a1
  have HB := Lib.hid hB
  have HW := Lib.hid hbb
  clear hr hc hz0 hg hbb hA hB
  go_enter Try.func13, Try.ntmps13
  go_wp2_with fail
  refine wp_region_held_drew (S := (fun w' => w'.cell? ⟨w.heap.size, 0, none⟩ = some (.slice (some ⟨g, off, none⟩) 1 1) ∧ w'.cell? ⟨w.heap.size, 1, none⟩ = some (.int .i64 room) ∧ w'.cell? ⟨g, off, none⟩ = some (.int .i64 z))) (by kernel_rfl) ⟨a0, a1, hz⟩ (fun hHeld => ?_)
  refine wpAnyH_take (i := 0) (oi := ⟨some 10, _, _, _, _, _⟩) (v := ?_) rfl (by kernel_rfl) (by kernel_rfl) (by kernel_rfl) (fun _ _ _ h => h) (Or.inl ⟨by rfl, ?_⟩) (by assumption) ?_
  rotate_left
  · (intro w hSw; (try dsimp only at hSw); go_simp; try with_reducible rfl)
  simp only [Act.put, List.setIfInBounds_toArray, List.set_cons_zero, List.set_cons_succ]
  refine wpAnyH_take (i := 1) (oi := ⟨some 11, _, _, _, _, _⟩) (v := ?_) rfl (by kernel_rfl) (by kernel_rfl) (by kernel_rfl) (fun _ _ _ h => h) (Or.inl ⟨by rfl, ?_⟩) (by assumption) ?_
  rotate_left
  · (intro w hSw; (try dsimp only at hSw); go_simp; try with_reducible rfl)
  simp only [Act.put, List.setIfInBounds_toArray, List.set_cons_zero, List.set_cons_succ]
  refine wpAnyH_take (i := 2) (oi := ⟨some 12, _, _, _, _, _⟩) (v := ?_) rfl (by kernel_rfl) (by kernel_rfl) (by kernel_rfl) (fun _ _ _ h => h) (Or.inl ⟨by rfl, ?_⟩) (by assumption) ?_
  rotate_left
  · (intro w hSw; (try dsimp only at hSw); go_simp; try with_reducible rfl)
  simp only [Act.put, List.setIfInBounds_toArray, List.set_cons_zero, List.set_cons_succ]
  refine wpAnyH_take (i := 3) (oi := ⟨some 13, _, _, _, _, _⟩) (v := ?_) rfl (by kernel_rfl) (by kernel_rfl) (by kernel_rfl) (fun _ _ _ h => h) (Or.inl ⟨by rfl, ?_⟩) (by assumption) ?_
  rotate_left
  · (intro w hSw; (try dsimp only at hSw); go_simp; try with_reducible rfl)
  simp only [Act.put, List.setIfInBounds_toArray, List.set_cons_zero, List.set_cons_succ]
  refine wpAnyH_take (i := 4) (oi := ⟨some 14, _, _, _, _, _⟩) (v := ?_) rfl (by kernel_rfl) (by kernel_rfl) (by kernel_rfl) (fun _ _ _ h => h) (Or.inl ⟨by rfl, ?_⟩) (by assumption) ?_
  rotate_left
  · (intro w hSw; (try dsimp only at hSw); go_simp; try with_reducible rfl)
  simp only [Act.put, List.setIfInBounds_toArray, List.set_cons_zero, List.set_cons_succ]
  refine wpAnyH_take (i := 5) (oi := ⟨some 15, _, _, _, _, _⟩) (v := ?_) rfl (by kernel_rfl) (by kernel_rfl) (by kernel_rfl) (fun _ _ _ h => h) (Or.inl ⟨by rfl, ?_⟩) (by assumption) ?_
  rotate_left
  · (intro w hSw; (try dsimp only at hSw); go_simp; try with_reducible rfl)
  simp only [Act.put, List.setIfInBounds_toArray, List.set_cons_zero, List.set_cons_succ]
  refine wpAnyH_take (i := 6) (oi := ⟨some 16, _, _, _, _, _⟩) (v := ?_) rfl (by kernel_rfl) (by kernel_rfl) (by kernel_rfl) (fun _ _ _ h => h) (Or.inl ⟨by rfl, ?_⟩) (by assumption) ?_
  rotate_left
  · (intro w hSw; (try dsimp only at hSw); go_simp; try with_reducible rfl)
  simp only [Act.put, List.setIfInBounds_toArray, List.set_cons_zero, List.set_cons_succ]
  refine wpAnyH_take (i := 7) (oi := ⟨some 17, _, _, _, _, _⟩) (v := ?_) rfl (by kernel_rfl) (by kernel_rfl) (by kernel_rfl) (fun _ _ _ h => h) (Or.inl ⟨by rfl, ?_⟩) (by assumption) ?_
  rotate_left
  · (intro w hSw; (try dsimp only at hSw); go_simp; try with_reducible rfl)
  simp only [Act.put, List.setIfInBounds_toArray, List.set_cons_zero, List.set_cons_succ]
  refine wpAnyH_take (i := 8) (oi := ⟨some 18, _, _, _, _, _⟩) (v := ?_) rfl (by kernel_rfl) (by kernel_rfl) (by kernel_rfl) (fun _ _ _ h => h) (Or.inl ⟨by rfl, ?_⟩) (by assumption) ?_
  rotate_left
  · (intro w hSw; (try dsimp only at hSw); go_simp; try with_reducible rfl)
  simp only [Act.put, List.setIfInBounds_toArray, List.set_cons_zero, List.set_cons_succ]
  refine wpAnyH_take (i := 9) (oi := ⟨some 19, _, _, _, _, _⟩) (v := ?_) rfl (by kernel_rfl) (by kernel_rfl) (by kernel_rfl) (fun _ _ _ h => h) (Or.inl ⟨by rfl, ?_⟩) (by assumption) ?_
  rotate_left
  · (intro w hSw; (try dsimp only at hSw); go_simp; try with_reducible rfl)
  simp only [Act.put, List.setIfInBounds_toArray, List.set_cons_zero, List.set_cons_succ]
  refine wpAnyH_ready (rs := [10]) (by kernel_rfl) (by simp) ?_
  refine AllReadyH.cons (o := ⟨none, _, _, _, _, _⟩) rfl (fun K hK => ?_) AllReadyH.nil
  rw [if_pos (by rfl)]
  refine wp_store_row 36 (.tmp 2) (.tmp 15) rfl (w.heap.size + 1) #[.slice (some ⟨g, off, none⟩) 0 0, .int .i64 room] rfl rfl 36 _ HB.out (by kernel_rfl) rfl (by kernel_rfl) ?_
  refine hK.out _ _ ⟨by rw [cell_setRow_other _ _ _ _ (by simp)]; exact a0, by rw [cell_setRow_other _ _ _ _ (by simp)]; exact a1, by rw [cell_setRow_other _ _ _ _ (by simp; omega)]; exact hz⟩ ?_
  clear hK K hHeld
  intro hHeld
  try simp only [Act.put, List.setIfInBounds_toArray, List.set_cons_zero, List.set_cons_succ]
  refine wpAnyH_take (i := 11) (oi := ⟨some 3, _, _, _, _, _⟩) (v := ?_) rfl (by kernel_rfl) (by kernel_rfl) (by kernel_rfl) (fun _ _ _ h => h) (Or.inl ⟨by rfl, ?_⟩) (by assumption) ?_
  rotate_left
  · (intro w hSw; (try dsimp only at hSw); go_simp; try with_reducible rfl)
  simp only [Act.put, List.setIfInBounds_toArray, List.set_cons_zero, List.set_cons_succ]
  refine wpAnyH_take (i := 12) (oi := ⟨some 4, _, _, _, _, _⟩) (v := ?_) rfl (by kernel_rfl) (by kernel_rfl) (by kernel_rfl) (fun _ _ _ h => h) (Or.inl ⟨by rfl, ?_⟩) (by assumption) ?_
  rotate_left
  · (intro w hSw; (try dsimp only at hSw); go_simp; try with_reducible rfl)
  simp only [Act.put, List.setIfInBounds_toArray, List.set_cons_zero, List.set_cons_succ]
  refine wpAnyH_done (by kernel_rfl) ?_ _
  go_wp2
  refine bodyPost_ret (results_cell_tmp2_row rfl _ _ (w.heap.size + 1) 36 #[.slice (some ⟨g, off, none⟩) 0 0, .int .i64 room] (0, 0) _ rfl (setRow_heap _ _ _ _ _ _ HB.out) Try.underlying36 rfl (by kernel_rfl)) rfl ⟨_, _, rfl, ?_, fun a0 e => by injection e with e; rw [← e], by decide, ?_⟩
  · exact ⟨rfl, fun h => by cases h⟩
  · exact below_setRow HW.out.drew (show w.heap.size ≤ w.heap.size + 1 by omega) _

set_option maxHeartbeats 1600000 in
theorem rtake_some (p : Option Addr) (z : Int) (zs : List Int) (cp : Nat) (room : Int) (w : World) (hr : Rds w 1 p (zs.length + 1) (vals_int (z :: zs))) (hcp : zs.length + 1 ≤ cp) (h2c : 2 ≤ cp) (hn : cp ≤ 9223372036854775807) :
    Calls Try.prog 13 #[.agg #[.slice p (zs.length + 1) cp, .int .i64 room]] w fun e w' => ∃ ad c', e = .returned (.tuple #[.agg #[.slice (some ad) zs.length c', .int .i64 room], .int .i64 z, .bool true]) ∧ Rds w' 1 (some ad) zs.length (vals_int zs) ∧ (∀ a0, p = some a0 → ad.block = a0.block) ∧ zs.length ≤ c' ∧ c' ≤ 9223372036854775807 ∧ Below w.heap.size w w' := by
  obtain ⟨g, off, rfl, hc⟩ := hr.2 (by omega)
  have hz0 : w.cell? ⟨g, off, none⟩ = some (.int .i64 z) := hc 0 (by omega)
  have hg := World.block_lt_of_cell? w _ hz0
  have hgw : g < w.heap.size := hg
  have hbb : Below w.heap.size w ((w.alloc (.cells #[.slice (some ⟨g, off, none⟩) (zs.length + 1) cp, .int .i64 room] 36)).alloc (.cells #[.slice none 0 0, .int .i64 0] 36)) := below_alloc (below_alloc (Below.refl _ _) _) _
  have hz := (hbb.cell (p := ⟨g, off, none⟩) hgw).trans hz0
  have hA := (Blk.new w 36 [.slice (some ⟨g, off, none⟩) (zs.length + 1) cp, .int .i64 room]).alloc (.cells #[.slice none 0 0, .int .i64 0] 36)
  have hB := Blk.new (w.alloc (.cells #[.slice (some ⟨g, off, none⟩) (zs.length + 1) cp, .int .i64 room] 36)) 36 [.slice none 0 0, .int .i64 0]
  rw [World.size_alloc] at hB
  have a0 := hA.cell 0
  have a1 := hA.cell 1
  simp only [List.getElem?_cons_zero, List.getElem?_cons_succ] at a0 a1
  have HB := Lib.hid hB
  have HW := Lib.hid hbb
  have HRD := Lib.hid (show ∀ (w' : World), Below w.heap.size w w' → Rds w' 1 (some ⟨g, off + 1, none⟩) zs.length (vals_int zs) from fun w' hb => ⟨by simp [vals_int], fun _ => ⟨g, off + 1, rfl, fun j hj => by
    have h1 := hc (j + 1) (by omega)
    rw [show off + 1 + j = off + (j + 1) by omega]
    rw [show (vals_int (z :: zs))[j + 1]? = (vals_int zs)[j]? from rfl] at h1
    exact (hb.cell (p := ⟨g, off + (j + 1), none⟩) hgw).trans h1⟩⟩)
  clear hr hc hz0 hg hbb hA hB
  have i1 : (1 : Int) ≤ (zs.length : Int) + 1 := by omega
  have hif : (if cp = 1 then (some ⟨g, off, none⟩ : Option Addr) else some ⟨g, off + 1, none⟩) = some ⟨g, off + 1, none⟩ := if_neg (by omega)
  go_enter Try.func13, Try.ntmps13
  go_wp2_with fail
  refine wp_region_held_drew (S := (fun w' => w'.cell? ⟨w.heap.size, 0, none⟩ = some (.slice (some ⟨g, off, none⟩) (zs.length + 1) cp) ∧ w'.cell? ⟨w.heap.size, 1, none⟩ = some (.int .i64 room) ∧ w'.cell? ⟨g, off, none⟩ = some (.int .i64 z))) (by kernel_rfl) ⟨a0, a1, hz⟩ (fun hHeld => ?_)
  refine wpAnyH_take (i := 0) (oi := ⟨some 10, _, _, _, _, _⟩) (v := ?_) rfl (by kernel_rfl) (by kernel_rfl) (by kernel_rfl) (fun _ _ _ h => h) (Or.inl ⟨by rfl, ?_⟩) (by assumption) ?_
  rotate_left
  · (intro w hSw; (try dsimp only at hSw); go_simp; try with_reducible rfl)
  simp only [Act.put, List.setIfInBounds_toArray, List.set_cons_zero, List.set_cons_succ]
  refine wpAnyH_take (i := 1) (oi := ⟨some 11, _, _, _, _, _⟩) (v := ?_) rfl (by kernel_rfl) (by kernel_rfl) (by kernel_rfl) (fun _ _ _ h => h) (Or.inl ⟨by rfl, ?_⟩) (by assumption) ?_
  rotate_left
  · (intro w hSw; (try dsimp only at hSw); go_simp; try with_reducible rfl)
  simp only [Act.put, List.setIfInBounds_toArray, List.set_cons_zero, List.set_cons_succ]
  refine wpAnyH_take (i := 2) (oi := ⟨some 12, _, _, _, _, _⟩) (v := ?_) rfl (by kernel_rfl) (by kernel_rfl) (by kernel_rfl) (fun _ _ _ h => h) (Or.inl ⟨by rfl, ?_⟩) (by assumption) ?_
  rotate_left
  · (intro w hSw; (try dsimp only at hSw); go_simp; try with_reducible rfl)
  simp only [Act.put, List.setIfInBounds_toArray, List.set_cons_zero, List.set_cons_succ]
  refine wpAnyH_take (i := 3) (oi := ⟨some 13, _, _, _, _, _⟩) (v := ?_) rfl (by kernel_rfl) (by kernel_rfl) (by kernel_rfl) (fun _ _ _ h => h) (Or.inl ⟨by rfl, ?_⟩) (by assumption) ?_
  rotate_left
  · (intro w hSw; (try dsimp only at hSw); go_simp; try with_reducible rfl)
  simp only [Act.put, List.setIfInBounds_toArray, List.set_cons_zero, List.set_cons_succ]
  refine wpAnyH_take (i := 4) (oi := ⟨some 14, _, _, _, _, _⟩) (v := ?_) rfl (by kernel_rfl) (by kernel_rfl) (by kernel_rfl) (fun _ _ _ h => h) (Or.inl ⟨by rfl, ?_⟩) (by assumption) ?_
  rotate_left
  · (intro w hSw; (try dsimp only at hSw); go_simp; try with_reducible rfl)
  simp only [Act.put, List.setIfInBounds_toArray, List.set_cons_zero, List.set_cons_succ]
  refine wpAnyH_take (i := 5) (oi := ⟨some 15, _, _, _, _, _⟩) (v := ?_) rfl (by kernel_rfl) (by kernel_rfl) (by kernel_rfl) (fun _ _ _ h => h) (Or.inl ⟨by rfl, ?_⟩) (by assumption) ?_
  rotate_left
  · (intro w hSw; (try dsimp only at hSw); go_simp; try with_reducible rfl)
  simp only [Act.put, List.setIfInBounds_toArray, List.set_cons_zero, List.set_cons_succ]
  refine wpAnyH_take (i := 6) (oi := ⟨some 16, _, _, _, _, _⟩) (v := ?_) rfl (by kernel_rfl) (by kernel_rfl) (by kernel_rfl) (fun _ _ _ h => h) (Or.inl ⟨by rfl, ?_⟩) (by assumption) ?_
  rotate_left
  · (intro w hSw; (try dsimp only at hSw); go_simp; try with_reducible rfl)
  simp only [Act.put, List.setIfInBounds_toArray, List.set_cons_zero, List.set_cons_succ]
  refine wpAnyH_take (i := 7) (oi := ⟨some 17, _, _, _, _, _⟩) (v := ?_) rfl (by kernel_rfl) (by kernel_rfl) (by kernel_rfl) (fun _ _ _ h => h) (Or.inl ⟨by rfl, ?_⟩) (by assumption) ?_
  rotate_left
  · (intro w hSw; (try dsimp only at hSw); go_simp; try with_reducible rfl)
  simp only [Act.put, List.setIfInBounds_toArray, List.set_cons_zero, List.set_cons_succ]
  refine wpAnyH_take (i := 8) (oi := ⟨some 18, _, _, _, _, _⟩) (v := ?_) rfl (by kernel_rfl) (by kernel_rfl) (by kernel_rfl) (fun _ _ _ h => h) (Or.inl ⟨by rfl, ?_⟩) (by assumption) ?_
  rotate_left
  · (intro w hSw; (try dsimp only at hSw); go_simp; try with_reducible rfl)
  simp only [Act.put, List.setIfInBounds_toArray, List.set_cons_zero, List.set_cons_succ]
  refine wpAnyH_take (i := 9) (oi := ⟨some 19, _, _, _, _, _⟩) (v := ?_) rfl (by kernel_rfl) (by kernel_rfl) (by kernel_rfl) (fun _ _ _ h => h) (Or.inl ⟨by rfl, ?_⟩) (by assumption) ?_
  rotate_left
  · (intro w hSw; (try dsimp only at hSw); go_simp; try with_reducible rfl)
  simp only [Act.put, List.setIfInBounds_toArray, List.set_cons_zero, List.set_cons_succ]
  refine wpAnyH_ready (rs := [10]) (by kernel_rfl) (by simp) ?_
  refine AllReadyH.cons (o := ⟨none, _, _, _, _, _⟩) rfl (fun K hK => ?_) AllReadyH.nil
  rw [if_pos (by rfl)]
  refine wp_store_row 36 (.tmp 2) (.tmp 15) rfl (w.heap.size + 1) #[.slice (some ⟨g, off + 1, none⟩) zs.length (cp - 1), .int .i64 room] rfl rfl 36 _ HB.out (by kernel_rfl) rfl (by kernel_rfl) ?_
  refine hK.out _ _ ⟨by rw [cell_setRow_other _ _ _ _ (by simp)]; exact a0, by rw [cell_setRow_other _ _ _ _ (by simp)]; exact a1, by rw [cell_setRow_other _ _ _ _ (by simp; omega)]; exact hz⟩ ?_
  clear hK K hHeld
  intro hHeld
  try simp only [Act.put, List.setIfInBounds_toArray, List.set_cons_zero, List.set_cons_succ]
  refine wpAnyH_take (i := 11) (oi := ⟨some 3, _, _, _, _, _⟩) (v := ?_) rfl (by kernel_rfl) (by kernel_rfl) (by kernel_rfl) (fun _ _ _ h => h) (Or.inl ⟨by rfl, ?_⟩) (by assumption) ?_
  rotate_left
  · (intro w hSw; (try dsimp only at hSw); go_simp; try with_reducible rfl)
  simp only [Act.put, List.setIfInBounds_toArray, List.set_cons_zero, List.set_cons_succ]
  refine wpAnyH_take (i := 12) (oi := ⟨some 4, _, _, _, _, _⟩) (v := ?_) rfl (by kernel_rfl) (by kernel_rfl) (by kernel_rfl) (fun _ _ _ h => h) (Or.inl ⟨by rfl, ?_⟩) (by assumption) ?_
  rotate_left
  · (intro w hSw; (try dsimp only at hSw); go_simp; try with_reducible rfl)
  simp only [Act.put, List.setIfInBounds_toArray, List.set_cons_zero, List.set_cons_succ]
  refine wpAnyH_done (by kernel_rfl) ?_ _
  go_wp2
  refine bodyPost_ret (results_cell_tmp2_row rfl _ _ (w.heap.size + 1) 36 #[.slice (some ⟨g, off + 1, none⟩) zs.length (cp - 1), .int .i64 room] (0, 0) _ rfl (setRow_heap _ _ _ _ _ _ HB.out) Try.underlying36 rfl (by kernel_rfl)) rfl ⟨_, _, rfl, ?_, fun a0 e => by injection e with e; rw [← e], by omega, by omega, ?_⟩
  · exact HRD.out _ (below_setRow HW.out.drew (show w.heap.size ≤ w.heap.size + 1 by omega) _)
  · exact below_setRow HW.out.drew (show w.heap.size ≤ w.heap.size + 1 by omega) _

theorem rtake_any (p : Option Addr) (z : Int) (zs : List Int) (cp : Nat) (room : Int) (w : World) (hr : Rds w 1 p (zs.length + 1) (vals_int (z :: zs))) (hcp : zs.length + 1 ≤ cp) (hn : cp ≤ 9223372036854775807) :
    Calls Try.prog 13 #[.agg #[.slice p (zs.length + 1) cp, .int .i64 room]] w fun e w' => ∃ ad c', e = .returned (.tuple #[.agg #[.slice (some ad) zs.length c', .int .i64 room], .int .i64 z, .bool true]) ∧ Rds w' 1 (some ad) zs.length (vals_int zs) ∧ (∀ a0, p = some a0 → ad.block = a0.block) ∧ zs.length ≤ c' ∧ c' ≤ 9223372036854775807 ∧ Below w.heap.size w w' := by
  by_cases h : cp = 1
  · subst h
    obtain rfl : zs = [] := List.eq_nil_of_length_eq_zero (by omega)
    refine (rtake_one p z room w hr).mono ?_
    rintro e w' ⟨ad, c', rfl, h1, hb, h2, h3⟩
    exact ⟨ad, c', rfl, h1, hb, Nat.zero_le _, h2, h3⟩
  · exact rtake_some p z zs cp room w hr hcp (by omega) hn
end Go.Proofs.Ytckejjpillcdgaa
