/- Pairs, Count, Size of a relation; Pairs of the reference; is. -/
import Derived.Test.YtmiajpoclgdhbaaDoorRelBoth
import Derived.Test.YtmiajpoclgdhbaaDoorRelPop
import Derived.Test.YtmiajpoclgdhbaaDoorAppS
import Derived.ChangeKeysEq
namespace Go.Proofs.YtmiajpoclgdhbaaDoor
open Go.RowKit
set_option linter.unusedVariables false

set_option linter.unusedSimpArgs false in
theorem eq2 {P : Program} {t e : TypeId} {i : TypeInfo} {k : IntKind} (hu : P.underlying t = some (.array 2 e)) (hi : P.info? e = some i) (he : P.underlying e = some (.int k)) (hc : P.cellsOf e = 1) (d : Nat) (x y x2 y2 : Int) (w : World) :
    (Op.equalIn (d + 2) t (.agg #[.int k x, .int k y]) (.agg #[.int k x2, .int k y2])).run P w = .ok (x == x2 && y == y2) w := by
  have hp : P.plainKey e = true := by unfold Program.plainKey; rw [he]
  rw [run_equalIn_array w (d + 1) _ _ hu hi, hc]
  have hl : List.range 2 = [0, 1] := rfl
  rw [hl]
  have p0 : (part e #[Value.int k x, .int k y] 0).run P w = .ok (.int k x) w := run_part_plain w hp rfl
  have p1 : (part e #[Value.int k x, .int k y] 1).run P w = .ok (.int k y) w := run_part_plain w hp rfl
  have q0 : (part e #[Value.int k x2, .int k y2] 0).run P w = .ok (.int k x2) w := run_part_plain w hp rfl
  have q1 : (part e #[Value.int k x2, .int k y2] 1).run P w = .ok (.int k y2) w := run_part_plain w hp rfl
  have r0 : ∀ a b : Int, (Op.equalIn (d + 1) e (.int k a) (.int k b)).run P w = .ok (a == b) w := fun a b => by
    simp [Op.equalIn, run_underlying he]
  simp only [Op.eqItems, Sem.run_bind, Nat.zero_mul, Nat.one_mul, p0, p1, q0, q1, r0, Result.andThen_ok]
  cases h1 : (x == x2) <;> cases h2 : (y == y2) <;> simp [p1, q1, r0, h2, Sem.run_bind]
theorem Rds.grown {w w' : World} {size n : Nat} {p : Option Addr} {xs : List Value} {row : Option Nat} (h : Rds w size p n xs) (hg : w.grownBy w' row) (hne : ∀ a, p = some a → some a.block ≠ row) : Rds w' size p n xs := by
  refine ⟨h.1, fun hn => ?_⟩
  obtain ⟨g, off, hp, hc⟩ := h.2 hn
  refine ⟨g, off, hp, fun j hj => ?_⟩
  have h1 := hc j hj
  rw [List.getElem?_eq_getElem (show j < xs.length by have := h.1; omega)] at h1 ⊢
  exact hg.cell h1 (hne ⟨g, off, none⟩ hp)
theorem Rds.own {w : World} {base : Nat} {e : TypeId} {size : Nat} {p : Option Addr} {c n : Nat} {xs : List Value} (h : w.ownsRow base e size (.slice p n c) n xs) : Rds w size p n xs ∧ n ≤ c ∧ ∀ a, p = some a → base ≤ a.block ∧ a.block < w.heap.size := by
  obtain ⟨p', c', e', hr, hc⟩ := Rds.of_own h
  injection e' with e1 e2 e3
  subst e1 e3
  refine ⟨hr, hc, fun a ha => ?_⟩
  subst ha
  obtain ⟨_, ⟨h1, _⟩ | ⟨g, cap, cur, h1, hb, hg, _⟩⟩ := h
  · injection h1 with h1; cases h1
  · injection h1 with h1 _ _
    injection h1 with h1
    subst h1
    exact ⟨hb, (Array.getElem?_eq_some_iff.1 hg).1⟩
def prCells (l : List (Nat × Nat)) : List Value := l.flatMap fun p => [.int .i64 (p.1 : Nat), .int .i64 (p.2 : Nat)]
theorem prCells_snoc (l : List (Nat × Nat)) (a b : Nat) : prCells (l ++ [(a, b)]) = prCells l ++ [.int .i64 (a : Nat), .int .i64 (b : Nat)] := by simp [prCells]
theorem elpr : El Tryd.prog 22 51 (.agg #[.int .i64 0, .int .i64 0]) 2 16 := ⟨Tryd.underlying22, by kernel_rfl⟩
def rowPr (ws : List Nat) (a : Nat) : List (Nat × Nat) := (rowOf ws a).map fun b => (a, b)
def prTo (ws : List Nat) (k : Nat) : List (Nat × Nat) := (List.range k).flatMap (rowPr ws)
theorem prTo_succ (ws : List Nat) (k : Nat) : prTo ws (k + 1) = prTo ws k ++ rowPr ws k := by
  unfold prTo; rw [List.range_succ, List.flatMap_append]; simp
theorem rowPr_len (ws : List Nat) (a : Nat) : (rowPr ws a).length ≤ 128 := by
  unfold rowPr; rw [List.length_map]; exact rowL_len _ _
theorem prTo_len (ws : List Nat) (k : Nat) : (prTo ws k).length ≤ 128 * k := by
  induction k with
  | zero => simp [prTo]
  | succ k ih => rw [prTo_succ, List.length_append]; have := rowPr_len ws k; omega
set_option maxRecDepth 100000 in
set_option maxHeartbeats 3200000 in
theorem relpairs_any (h g n : Nat) (ws : List Nat) (w : World) (r : RelAt w h g n ws) (hn : n ≤ 128) (hT : TabW w) :
    Calls Tryd.prog 56 #[.pointer (some ⟨h, 0, none⟩)] w fun e w' => ∃ v, e = .returned v ∧ w'.ownsRow w.heap.size 51 2 v (prTo ws n).length (prCells (prTo ws n)) ∧ Below w.heap.size w w' := by
  have HR := Lib.hid r
  have HT := Lib.hid hT
  obtain ⟨_, _, ⟨c0, hc0, hBl⟩, _⟩ := r
  have hb0 : w.cell? ⟨h, 0, none⟩ = some (.slice (some ⟨g, 0, none⟩) n c0) := hBl.cell 0
  clear hBl hT
  go_enter Tryd.func56, Tryd.ntmps56
  go_wp2_with fail
  go_loopw [3, 13] (fun v i wr => ∃ k : Nat, k ≤ n ∧ i = .int .i64 k ∧ wr.ownsRow w.heap.size 51 2 v (prTo ws k).length (prCells (prTo ws k)) ∧ Below w.heap.size w wr) (fun _ i _ => n - (intOf i).toNat)
  case atStart => exact ⟨0, by omega, rfl, World.ownsRow_nil _ _ _ _, Below.refl _ _⟩
  case round =>
    obtain ⟨k, hk, rfl, hO, hB⟩ := hrel
    obtain ⟨wo, rfl⟩ : ∃ wo : World, wo = wr := ⟨_, rfl⟩
    by_cases hlt : k < n
    · have hrr := HR.out.below hB
      have hL := hrr.len
      have d0 := hrr.2.2.2.cell (j := k * 2) (by omega)
      have d1 := hrr.2.2.2.cell (j := k * 2 + 1) (by omega)
      have l0 := hrr.2.2.2.wlt (k * 2)
      have l1 := hrr.2.2.2.wlt (k * 2 + 1)
      have HTW := Lib.hid (HT.out.below hB HT.out.1)
      have HPS := Lib.hid (prTo_succ ws k)
      have HPL := Lib.hid (prTo_len ws k)
      have HRP := Lib.hid (show rowPr ws k = (rowL (ws.getD (k * 2) 0) (ws.getD (k * 2 + 1) 0)).map fun b => (k, b) from rfl)
      have hzB := hB.size
      have HO := Lib.hid hO
      have HB := Lib.hid hB
      clear hO hB hrr
      generalize prTo ws k = acc at *
      generalize ws.getD (k * 2) 0 = y0 at *
      generalize ws.getD (k * 2 + 1) 0 = y1 at *
      have hki : (0 : Int) ≤ k := by omega
      have hk2 : (k : Int) < n := by omega
      have HE := Lib.hid (fun w1 (h : TabW w1) => each_any y0 y1 w1 l0 l1 h)
      have hRl := rowL_len y0 y1
      generalize rowL y0 y1 = R at *
      go_wp2_with fail
      refine (HE.out _ (HTW.out.belowS (below_alloc (Below.refl _ _) _))).mono ?_
      rintro e w2 ⟨v2, rfl, ho, hb⟩
      obtain ⟨p, c, rfl, _⟩ := own_form ho
      obtain ⟨hrd, hrc, hrp⟩ := Rds.own ho
      have HRD := Lib.hid hrd
      have HRPB := Lib.hid hrp
      have HO2 := Lib.hid (own_below HO.out (below_trans (below_alloc (Below.refl _ _) _) hb))
      have HB2 := Lib.hid (below_trans (below_alloc HB.out _) hb)
      have HLT := Lib.hid (fun k hk => (HO.out.lt k hk).2)
      have hz2 : wo.heap.size ≤ w2.heap.size := by have := hb.size; simp at this; omega
      clear ho hb HE HO HB hrd hrp d0 d1
      go_wp2_with fail
      go_loopw [3, 21] (fun v i wr => ∃ j : Nat, j ≤ R.length ∧ i = .int .i64 j ∧ wr.ownsRow w.heap.size 51 2 v (acc.length + j) (prCells (acc ++ (R.take j).map fun b => (k, b))) ∧ Rds wr 1 p R.length (R.map fun b => .int .i64 (b : Nat)) ∧ (∀ a, p = some a → some a.block ≠ v.ownBlock ∧ a.block < wr.heap.size) ∧ Below w.heap.size w wr) (fun _ i _ => R.length - (intOf i).toNat)
      case atStart => exact ⟨0, by omega, rfl, by simpa using HO2.out, HRD.out, fun a ha => ⟨fun e => by have h1 := HLT.out _ e.symm; have h2 := (HRPB.out a ha).1; simp at h2; omega, (HRPB.out a ha).2⟩, HB2.out⟩
      case round =>
        clear HO2 HRD HRPB HB2 HLT
        obtain ⟨j, hj, rfl, hO, hRD, hNE, hB⟩ := hrel
        obtain ⟨wi, rfl⟩ : ∃ wi : World, wi = wr := ⟨_, rfl⟩
        by_cases hlj : j < R.length
        · obtain ⟨po, co, rfl, _⟩ := own_form hO
          obtain ⟨g2, off2, u, hp, hu, hcj⟩ := hRD.at_ (j := j) (by omega)
          subst hp
          have hue : u = .int .i64 ((R[j] : Nat) : Int) := by
            have : (R.map fun b => Value.int .i64 (b : Nat))[j]? = some (.int .i64 ((R[j] : Nat) : Int)) := by simp [hlj]
            rw [this] at hu; exact (Option.some.inj hu).symm
          subst hue
          have HTS := Lib.hid (take_snoc' R j hlj)
          have HO := Lib.hid hO
          have HRD := Lib.hid hRD
          have HNE := Lib.hid (hNE _ rfl)
          have HB := Lib.hid hB
          have hzb := hB.size
          have hpl := HPL.out
          generalize hRj : R[j] = b at *
          clear hO hRD hNE hB hu hRj
          have hj0 : (0 : Int) ≤ j := by omega
          have hj2 : (j : Int) < R.length := by omega
          go_wp2_with (at_builtin; refine app1l rfl _ _ 22 rfl w.heap.size 51 _ 2 16 elpr rfl (by decide) _ _ _ rfl HO.out [.int .i64 (k : Nat), .int .i64 (b : Nat)] rfl _ rfl rfl (by simp [Value.oneCell']) ?c1 ?c2 ?c3 ?_)
          case c1 => unfold maxLen; omega
          case c2 => omega
          intro v' w' ho' hg' hb' hl'
          have HO3 := Lib.hid (show w'.ownsRow w.heap.size 51 2 v' (acc.length + (j + 1)) (prCells (acc ++ (R.take (j + 1)).map fun b => (k, b))) from by
            rw [HTS.out, List.map_append, ← List.append_assoc, show ([b].map fun b => (k, b)) = [(k, b)] from rfl, prCells_snoc, List.map_take]; exact ho')
          have HRD3 := Lib.hid (HRD.out.grown hg' fun a ha => by injection ha with ha; subst ha; exact HNE.out.1)
          have HNE3 := Lib.hid (show ∀ a, some (⟨g2, off2, none⟩ : Addr) = some a → some a.block ≠ v'.ownBlock ∧ a.block < w'.heap.size from fun a ha => by
            injection ha with ha
            subst ha
            refine ⟨fun e => ?_, Nat.lt_of_lt_of_le HNE.out.2 hg'.size⟩
            rcases hl' _ e.symm with h1 | h1
            · exact HNE.out.1 h1.symm
            · have := HNE.out.2; simp at h1 this; omega)
          have HB3 := Lib.hid (HB.out.trans hb')
          clear ho' hg' hb' hl' HO HRD HNE HB
          go_wp2
          go_roundw
          case rel => exact ⟨j + 1, by omega, by go_num, HO3.out, HRD3.out, HNE3.out, HB3.out⟩
          case measure => simp [intOf]; omega
        · obtain rfl : j = R.length := by omega
          rw [List.take_length] at hO
          have HO := Lib.hid hO
          have HB := Lib.hid hB
          clear hO hRD hNE hB
          go_wp2_with fail
          go_roundw
          case rel => exact ⟨k + 1, by omega, by go_num, by rw [HPS.out, HRP.out, List.length_append, List.length_map]; exact HO.out, HB.out⟩
          case measure => simp [intOf]; omega
    · obtain rfl : k = n := by omega
      have HO := Lib.hid hO
      have HB := Lib.hid hB
      clear hO hB
      go_wp2_with fail
      go_ret
      exact ⟨_, rfl, HO.out, HB.out⟩

/-! The reference's. -/
def trowTo (T : Nat → Nat → Bool) (a j : Nat) : List (Nat × Nat) := ((List.range j).filter (T a)).map fun b => (a, b)
def tprTo (T : Nat → Nat → Bool) (n k : Nat) : List (Nat × Nat) := (List.range k).flatMap fun a => trowTo T a n
theorem tprTo_succ (T : Nat → Nat → Bool) (n k : Nat) : tprTo T n (k + 1) = tprTo T n k ++ trowTo T k n := by
  unfold tprTo; rw [List.range_succ, List.flatMap_append]; simp
theorem trowTo_yes (T : Nat → Nat → Bool) (a j : Nat) (h : T a j = true) : trowTo T a (j + 1) = trowTo T a j ++ [(a, j)] := by
  unfold trowTo; rw [List.range_succ, List.filter_append, List.map_append]; simp [h]
theorem trowTo_no (T : Nat → Nat → Bool) (a j : Nat) (h : T a j = false) : trowTo T a (j + 1) = trowTo T a j := by
  unfold trowTo; rw [List.range_succ, List.filter_append, List.map_append]; simp [h]
theorem trowTo_len (T : Nat → Nat → Bool) (a j : Nat) : (trowTo T a j).length ≤ j := by
  unfold trowTo; rw [List.length_map]
  have := List.length_filter_le (T a) (List.range j)
  simpa using this
theorem tprTo_len (T : Nat → Nat → Bool) (n k : Nat) : (tprTo T n k).length ≤ n * k := by
  induction k with
  | zero => simp [tprTo]
  | succ k ih => rw [tprTo_succ, List.length_append]; have := trowTo_len T k n; rw [Nat.mul_succ]; omega
set_option maxHeartbeats 3200000 in
theorem tpairs_any (g n : Nat) (T : Nat → Nat → Bool) (w : World) (h : TabAt w g n T) (hn : n ≤ 128) :
    Calls Tryd.prog 57 #[.slice (some ⟨g, 0, none⟩) n n] w fun e w' => ∃ v, e = .returned v ∧ w'.ownsRow w.heap.size 51 2 v (tprTo T n n).length (prCells (tprTo T n n)) ∧ Below w.heap.size w w' := by
  have HTA := Lib.hid h
  clear h
  go_enter Tryd.func57, Tryd.ntmps57
  go_wp2_with fail
  go_loopw [3, 4] (fun v i wr => ∃ k : Nat, k ≤ n ∧ i = .int .i64 k ∧ wr.ownsRow w.heap.size 51 2 v (tprTo T n k).length (prCells (tprTo T n k)) ∧ Below w.heap.size w wr) (fun _ i _ => n - (intOf i).toNat)
  case atStart => exact ⟨0, by omega, rfl, World.ownsRow_nil _ _ _ _, Below.refl _ _⟩
  case round =>
    obtain ⟨k, hk, rfl, hO, hB⟩ := hrel
    obtain ⟨wo, rfl⟩ : ∃ wo : World, wo = wr := ⟨_, rfl⟩
    by_cases hlt : k < n
    · have HPS := Lib.hid (tprTo_succ T n k)
      have HPL := Lib.hid (show (tprTo T n k).length ≤ 16384 from by have := tprTo_len T n k; have h2 : n * k ≤ 128 * 128 := Nat.mul_le_mul hn (by omega); omega)
      have HO := Lib.hid hO
      have HB := Lib.hid hB
      clear hO hB
      generalize tprTo T n k = acc at *
      have hki : (0 : Int) ≤ k := by omega
      have hk2 : (k : Int) < n := by omega
      go_wp2_with fail
      go_loopw [3, 5] (fun v i wr => ∃ j : Nat, j ≤ n ∧ i = .int .i64 j ∧ wr.ownsRow w.heap.size 51 2 v (acc ++ trowTo T k j).length (prCells (acc ++ trowTo T k j)) ∧ Below w.heap.size w wr) (fun _ i _ => n - (intOf i).toNat)
      case atStart => exact ⟨0, by omega, rfl, by simpa [trowTo] using HO.out, HB.out⟩
      case round =>
        clear HO HB
        obtain ⟨j, hj, rfl, hO, hB⟩ := hrel
        obtain ⟨wi, rfl⟩ : ∃ wi : World, wi = wr := ⟨_, rfl⟩
        by_cases hlj : j < n
        · have hta := HTA.out.keep hB
          have ho := hta.outer hlt
          have hm := hta.mark hlt hlj
          have hrl := trowTo_len T k j
          have HY := Lib.hid (trowTo_yes T k j)
          have HN := Lib.hid (trowTo_no T k j)
          have HAL := Lib.hid (show (acc ++ trowTo T k j).length ≤ 20000 from by rw [List.length_append]; have := HPL.out; omega)
          have HO := Lib.hid hO
          have HB := Lib.hid hB
          have hj0 : (0 : Int) ≤ j := by omega
          have hj2 : (j : Int) < n := by omega
          clear hta hO hB hrl
          cases hz : T k j
          · rw [hz] at hm
            have HN2 := Lib.hid (HN.out hz)
            clear hz HN HY
            go_wp2_with fail
            go_roundw
            case rel => exact ⟨j + 1, by omega, by go_num, by rw [HN2.out]; exact HO.out, HB.out⟩
            case measure => simp [intOf]; omega
          · rw [hz] at hm
            have HY2 := Lib.hid (HY.out hz)
            clear hz HN HY
            obtain ⟨acc2, hac⟩ : ∃ a2, a2 = acc ++ trowTo T k j := ⟨_, rfl⟩
            have HAC := Lib.hid hac
            rw [← hac] at HO HAL
            have hzb := HB.out.size
            have hal := HAL.out
            clear hac
            obtain ⟨po, co, hpo, _⟩ := own_form HO.out
            subst hpo
            go_wp2_with (at_builtin; refine app1l rfl _ _ 22 rfl w.heap.size 51 _ 2 16 elpr rfl (by decide) _ _ _ rfl HO.out [.int .i64 (k : Nat), .int .i64 (j : Nat)] rfl _ rfl rfl (by simp [Value.oneCell']) ?c1 ?c2 ?c3 ?_)
            case c1 => unfold maxLen; omega
            case c2 => omega
            case c3 => exact hzb
            intro v' w' ho' hg' hb' hl'
            have HO3 := Lib.hid (show w'.ownsRow w.heap.size 51 2 v' (acc ++ trowTo T k (j + 1)).length (prCells (acc ++ trowTo T k (j + 1))) from by
              rw [HY2.out, ← List.append_assoc, ← HAC.out, prCells_snoc, List.length_append]; exact ho')
            have HB3 := Lib.hid (HB.out.trans hb')
            clear ho' hg' hb' hl' HO HB
            go_wp2
            go_roundw
            case rel => exact ⟨j + 1, by omega, by go_num, HO3.out, HB3.out⟩
            case measure => simp [intOf]; omega
        · obtain rfl : j = n := by omega
          have HO := Lib.hid hO
          have HB := Lib.hid hB
          clear hO hB
          go_wp2_with fail
          go_roundw
          case rel => exact ⟨k + 1, by omega, by go_num, by rw [HPS.out]; exact HO.out, HB.out⟩
          case measure => simp [intOf]; omega
    · obtain rfl : k = n := by omega
      have HO := Lib.hid hO
      have HB := Lib.hid hB
      clear hO hB
      go_wp2_with fail
      go_ret
      exact ⟨_, rfl, HO.out, HB.out⟩

theorem relsize_any (h g n : Nat) (ws : List Nat) (w : World) (r : RelAt w h g n ws) :
    Calls Tryd.prog 31 #[.pointer (some ⟨h, 0, none⟩)] w fun e w' => e = .returned (.int .i64 n) ∧ w = w' := by
  obtain ⟨_, _, ⟨c0, hc0, hBl⟩, _⟩ := r
  have hb0 : w.cell? ⟨h, 0, none⟩ = some (.slice (some ⟨g, 0, none⟩) n c0) := hBl.cell 0
  clear hBl
  go_enter Tryd.func31, Tryd.ntmps31
  go_wp2_with fail
  go_ret
  exact ⟨rfl, rfl⟩

theorem rowPr_count (ws : List Nat) (a : Nat) : (rowPr ws a).length = (bitsL (ws.getD (a * 2) 0)).length + (bitsL (ws.getD (a * 2 + 1) 0)).length := by
  unfold rowPr rowOf rowL; simp
set_option maxHeartbeats 3200000 in
theorem relcount_any (h g n : Nat) (ws : List Nat) (w : World) (r : RelAt w h g n ws) (hn : n ≤ 128) :
    Calls Tryd.prog 30 #[.pointer (some ⟨h, 0, none⟩)] w fun e w' => e = .returned (.int .i64 ((prTo ws n).length : Nat)) ∧ Below w.heap.size w w' := by
  have HR := Lib.hid r
  obtain ⟨_, _, ⟨c0, hc0, hBl⟩, _⟩ := r
  have hb0 : w.cell? ⟨h, 0, none⟩ = some (.slice (some ⟨g, 0, none⟩) n c0) := hBl.cell 0
  clear hBl
  go_enter Tryd.func30, Tryd.ntmps30
  go_wp2_with fail
  go_loopw [3, 13] (fun v i wr => ∃ k : Nat, k ≤ n ∧ i = .int .i64 k ∧ v = .int .i64 ((prTo ws k).length : Nat) ∧ Below w.heap.size w wr) (fun _ i _ => n - (intOf i).toNat)
  case atStart => exact ⟨0, by omega, rfl, rfl, Below.refl _ _⟩
  case round =>
    obtain ⟨k, hk, rfl, rfl, hB⟩ := hrel
    obtain ⟨wo, rfl⟩ : ∃ wo : World, wo = wr := ⟨_, rfl⟩
    by_cases hlt : k < n
    · have hrr := HR.out.below hB
      have hL := hrr.len
      have d0 := hrr.2.2.2.cell (j := k * 2) (by omega)
      have d1 := hrr.2.2.2.cell (j := k * 2 + 1) (by omega)
      have l0 := hrr.2.2.2.wlt (k * 2)
      have l1 := hrr.2.2.2.wlt (k * 2 + 1)
      have HLN := Lib.hid (show (prTo ws (k + 1)).length = (prTo ws k).length + (bitsL (ws.getD (k * 2) 0)).length + (bitsL (ws.getD (k * 2 + 1) 0)).length from by rw [prTo_succ, List.length_append, rowPr_count]; omega)
      have hpl := prTo_len ws k
      have HB := Lib.hid hB
      clear hB hrr
      generalize (prTo ws k).length = acc at *
      generalize ws.getD (k * 2) 0 = y0 at *
      generalize ws.getD (k * 2 + 1) 0 = y1 at *
      have hki : (0 : Int) ≤ k := by omega
      have hk2 : (k : Int) < n := by omega
      have hb0 := bitsL_len y0
      have hb1 := bitsL_len y1
      have HO0 := Lib.hid (fun w1 => ones_any y0 w1 l0)
      have HO1 := Lib.hid (fun w1 => ones_any y1 w1 l1)
      have hix0 := fun w => rowix0 (y0 : Int) (y1 : Int) w
      have hix1 := fun w => rowix1 (y0 : Int) (y1 : Int) w
      generalize (bitsL y0).length = n0 at *
      generalize (bitsL y1).length = n1 at *
      go_wp2_with fail
      go_loop [3, 18] (fun v i => (i = .int .i64 0 ∧ v = .int .i64 acc) ∨ (i = .int .i64 1 ∧ v = .int .i64 ((acc : Int) + n0)) ∨ (i = .int .i64 2 ∧ v = .int .i64 ((acc : Int) + n0 + n1))) (fun _ i => 2 - (intOf i).toNat)
      case atStart => exact .inl ⟨rfl, rfl⟩
      case round =>
        rcases hrel with ⟨rfl, rfl⟩ | ⟨rfl, rfl⟩ | ⟨rfl, rfl⟩
        · go_wp2_with fail
          refine (HO0.out _).mono ?_
          rintro e w' ⟨rfl, rfl⟩
          go_wp2_with fail
          go_round
          case rel => exact .inr (.inl ⟨by go_num, by go_num⟩)
          case measure => simp [intOf]
        · go_wp2_with fail
          refine (HO1.out _).mono ?_
          rintro e w' ⟨rfl, rfl⟩
          go_wp2_with fail
          go_round
          case rel => exact .inr (.inr ⟨by go_num, by go_num⟩)
          case measure => simp [intOf]
        · go_wp2_with fail
          go_roundw
          case rel => exact ⟨k + 1, by omega, by go_num, by rw [HLN.out]; simp, below_alloc HB.out _⟩
          case measure => simp [intOf]; omega
    · obtain rfl : k = n := by omega
      have HB := Lib.hid hB
      clear hB
      go_wp2_with fail
      go_ret
      exact ⟨rfl, HB.out⟩

/-! What is says. -/
theorem rowL_filter (y0 y1 : Nat) : rowL y0 y1 = (List.range 128).filter fun b => (if b < 64 then y0 else y1).testBit (b % 64) := by
  have e : (List.range 128) = List.range 64 ++ (List.range 64).map (64 + ·) := by decide
  have e1 : (List.range 64).filter y0.testBit = (List.range 64).filter fun b => (if b < 64 then y0 else y1).testBit (b % 64) := by
    apply List.filter_congr
    intro b hb
    have := List.mem_range.1 hb
    rw [if_pos this, Nat.mod_eq_of_lt this]
  have e2 : (List.range 64).filter y1.testBit = (List.range 64).filter ((fun b => (if b < 64 then y0 else y1).testBit (b % 64)) ∘ (64 + ·)) := by
    apply List.filter_congr
    intro b hb
    have := List.mem_range.1 hb
    simp only [Function.comp]
    rw [if_neg (by omega), show (64 + b) % 64 = b by omega]
  rw [e, List.filter_append, List.filter_map, rowL, bitsL, bitsL, e1, e2]
theorem rowOf_filter (ws : List Nat) (a : Nat) : rowOf ws a = (List.range 128).filter (hasB ws a) := by
  unfold rowOf
  rw [rowL_filter]
  apply List.filter_congr
  intro b hb
  have := List.mem_range.1 hb
  unfold hasB
  by_cases h : b < 64
  · rw [if_pos h, show 2 * a + b / 64 = a * 2 by omega]
  · rw [if_neg h, show 2 * a + b / 64 = a * 2 + 1 by omega]
theorem filter_cut {p q : Nat → Bool} {n m : Nat} (hnm : n ≤ m) (h1 : ∀ b, b < n → p b = q b) (h2 : ∀ b, b < m → p b = true → b < n) : (List.range m).filter p = (List.range n).filter q := by
  obtain ⟨d, rfl⟩ : ∃ d, m = n + d := ⟨m - n, by omega⟩
  rw [List.range_add, List.filter_append]
  have e : ((List.range d).map (n + ·)).filter p = [] := by
    rw [List.filter_eq_nil_iff]
    intro b hb hp
    obtain ⟨c, hc, rfl⟩ := List.mem_map.1 hb
    have := h2 _ (by have := List.mem_range.1 hc; omega) hp
    omega
  rw [e, List.append_nil]
  apply List.filter_congr
  intro b hb
  exact h1 b (List.mem_range.1 hb)
/-- The words say what the table does. -/
def Says (n : Nat) (ws : List Nat) (T : Nat → Nat → Bool) : Prop := (∀ a, a < n → ∀ b, b < n → hasB ws a b = T a b) ∧ ∀ a, a < n → ∀ b, b < 128 → hasB ws a b = true → b < n
theorem says_pairs {n : Nat} {ws : List Nat} {T : Nat → Nat → Bool} (hn : n ≤ 128) (h : Says n ws T) : prTo ws n = tprTo T n n := by
  unfold prTo tprTo
  have : ∀ k, k ≤ n → (List.range k).flatMap (rowPr ws) = (List.range k).flatMap fun a => trowTo T a n := by
    intro k
    induction k with
    | zero => intro _; rfl
    | succ k ih =>
      intro hk
      rw [List.range_succ, List.flatMap_append, List.flatMap_append, ih (by omega)]
      congr 1
      simp only [List.flatMap_cons, List.flatMap_nil, List.append_nil]
      unfold rowPr trowTo
      rw [rowOf_filter, filter_cut hn (fun b hb => h.1 k (by omega) b hb) (fun b hb hp => h.2 k (by omega) b hb hp)]
  exact this n (Nat.le_refl _)
theorem says_wf {n : Nat} {ws : List Nat} {T : Nat → Nat → Bool} (h : Says n ws T) : WF n ws := by
  intro a ha b hb
  obtain ⟨h1, h2⟩ := rowOf_mem hb
  exact h.2 a ha b h1 h2
theorem says_of {n : Nat} (hn : n ≤ 128) {l : List (Int × Int)} (hok : l.all (okP n) = true) : Says n (ofW n l) (inL l) :=
  ⟨fun a ha b hb => hasB_of n hn l hok a b (by omega), fun a ha b hb h => by rw [hasB_of n hn l hok a b hb] at h; exact (inL_lt hok h).2⟩
theorem eqPair (x y : Int) (w : World) : (Op.equalIn 10000 51 (.agg #[.int .i64 x, .int .i64 y]) (.agg #[.int .i64 x, .int .i64 y])).run Tryd.prog w = .ok true w := by
  obtain ⟨i, hi, _⟩ := info_parts eli.2
  rw [eq2 Tryd.underlying51 hi Tryd.underlying3 (by kernel_rfl) 9998 x y x y w]; simp
theorem prCells_get : ∀ (l : List (Nat × Nat)) (i : Nat) (h : i < l.length), (prCells l)[i * 2]? = some (.int .i64 (l[i].1 : Nat)) ∧ (prCells l)[i * 2 + 1]? = some (.int .i64 (l[i].2 : Nat))
  | r :: l, 0, _ => by simp [prCells]
  | r :: l, i + 1, h => by
    have := prCells_get l i (by simpa using h)
    have e : prCells (r :: l) = [.int .i64 (r.1 : Nat), .int .i64 (r.2 : Nat)] ++ prCells l := rfl
    rw [e, List.getElem?_append_right (by simp; omega), List.getElem?_append_right (by simp; omega)]
    simp only [List.length_cons, List.length_nil, List.getElem_cons_succ]
    rw [show (i + 1) * 2 - (0 + 1 + 1) = i * 2 by omega, show (i + 1) * 2 + 1 - (0 + 1 + 1) = i * 2 + 1 by omega]
    exact this
theorem pr_at {w : World} {p : Option Addr} {l : List (Nat × Nat)} (h : Rds w 2 p l.length (prCells l)) {i : Nat} (hi : i < l.length) :
    ∃ g off, p = some ⟨g, off, none⟩ ∧ w.cell? ⟨g, off + i * 2, none⟩ = some (.int .i64 (l[i].1 : Nat)) ∧ w.cell? ⟨g, off + i * 2 + 1, none⟩ = some (.int .i64 (l[i].2 : Nat)) := by
  obtain ⟨g, off, hp, hc⟩ := h.2 (by omega)
  obtain ⟨h0, h1⟩ := prCells_get l i hi
  exact ⟨g, off, hp, (hc _ (by omega)).trans h0, (hc (i * 2 + 1) (by omega)).trans h1⟩
set_option maxHeartbeats 3200000 in
theorem is_any (h g n t : Nat) (ws : List Nat) (T : Nat → Nat → Bool) (w : World) (r : RelAt w h g n ws) (ht : TabAt w t n T) (hs : Says n ws T) (hn : n ≤ 128) (hT : TabW w) :
    Calls Tryd.prog 33 #[.pointer (some ⟨h, 0, none⟩), .slice (some ⟨t, 0, none⟩) n n] w fun e w' => e = .returned (.bool true) ∧ Below w.heap.size w w' := by
  have HSZ := Lib.hid (relsize_any h g n ws w r)
  have HP := Lib.hid (relpairs_any h g n ws w r hn hT)
  have HTP := Lib.hid (fun w1 (hb : Below w.heap.size w w1) => tpairs_any t n T w1 (ht.keep hb) hn)
  have HC := Lib.hid (fun w1 (hb : Below w.heap.size w w1) => relcount_any h g n ws w1 (r.below hb) hn)
  have hE := says_pairs hn hs
  rw [← hE] at HTP
  have hl := prTo_len ws n
  clear hs ht r hT hE
  generalize prTo ws n = l at *
  go_enter Tryd.func33, Tryd.ntmps33
  go_wp2_with fail
  refine (HSZ.out).mono ?_
  rintro e w' ⟨rfl, rfl⟩
  go_wp2_with fail
  refine (HP.out).mono ?_
  rintro e w1 ⟨v1, rfl, ho1, hb1⟩
  have HO1 := Lib.hid ho1
  have HB1 := Lib.hid hb1
  clear ho1 hb1 HP HSZ
  go_wp2_with fail
  refine (HTP.out _ HB1.out).mono ?_
  rintro e w2 ⟨v2, rfl, ho2, hb2⟩
  have HB2 := Lib.hid (below_trans HB1.out hb2)
  obtain ⟨p1, c1, rfl, hr1, _⟩ := Rds.of_own HO1.out
  obtain ⟨p2, c2, rfl, hr2, _⟩ := Rds.of_own ho2
  have HR1 := Lib.hid (hr1.below hb2)
  have HR2 := Lib.hid hr2
  clear ho2 hb2 hr1 hr2 HO1 HB1 HTP
  go_wp2_with fail
  refine (HC.out _ HB2.out).mono ?_
  rintro e w3 ⟨rfl, hb3⟩
  have HB3 := Lib.hid (below_trans HB2.out hb3)
  have HR1 := Lib.hid (HR1.out.below hb3)
  have HR2 := Lib.hid (HR2.out.below hb3)
  clear hb3 HC HB2
  go_wp2_with fail
  go_loopw [7] (fun i wr => ∃ k m : Nat, k ≤ l.length ∧ i = .int .i64 k ∧ wr = w3.drewN m) (fun i _ => l.length - (intOf i).toNat)
  case atStart => exact ⟨0, 0, by omega, rfl, rfl⟩
  case round =>
    obtain ⟨k, m, hk, rfl, rfl⟩ := hrel
    by_cases hlt : k < l.length
    · obtain ⟨g1, off1, rfl, a0, a1⟩ := pr_at HR1.out hlt
      obtain ⟨g2, off2, rfl, b0, b1⟩ := pr_at HR2.out hlt
      have hk0 : (0 : Int) ≤ k := by omega
      have hki : (k : Int) < l.length := by omega
      generalize ((l[k].1 : Nat) : Int) = x at *
      generalize ((l[k].2 : Nat) : Int) = y at *
      have heq := fun w => eqPair x y w
      go_wp2_with fail
      go_quiet (fail)
      go_wp2_with fail
      go_roundw
      case rel => exact ⟨k + 1, _, by omega, by go_num, rfl⟩
      case measure => simp [intOf]; omega
    · obtain rfl : k = l.length := by omega
      go_wp2_with fail
      go_ret
      exact ⟨rfl, below_drewN HB3.out m⟩
end Go.Proofs.YtmiajpoclgdhbaaDoor
