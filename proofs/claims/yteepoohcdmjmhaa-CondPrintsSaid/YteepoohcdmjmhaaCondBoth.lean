/- Reading a condition: parts with signs between them. -/
import Derived.Test.YteepoohcdmjmhaaCondOneW
namespace Go.Proofs.Yteepoohcdmjmhaa
open Go.RowKit
set_option linter.unusedVariables false
set_option linter.unusedSimpArgs false

/-- A state within the loop: what has been read lies in the block H. -/
structure Lp (w w' : World) (H r n : Nat) (p : Option Addr) (c : Nat) (tk : List Tk) (x : Nat) (s : RS) (m : Nat) (t : CT) (es : List Value) : Prop where
  st : St w w' r n p c tk x s m
  bx : Blk w' 25 H es
  tr : CT.At w' (fun b => w.heap.size < b ∧ b ≠ H) t es
  h3 : w.heap.size < H
section
variable {w w' w'' : World} {H r n : Nat} {p : Option Addr} {c : Nat} {tk : List Tk} {x : Nat} {s s' : RS} {m m' : Nat} {t : CT} {es : List Value}
theorem Lp.g2 (h : Lp w w' H r n p c tk x s m t es) (hs : St w w'' r n p c tk x s' m') (hg : G2 r x w' w'') : Lp w w'' H r n p c tk x s' m' t es := by
  have h1 := h.st.hr
  have h2 := h.st.hx
  have h3 := h.h3
  exact ⟨hs, h.bx.g2 hg (by omega) (by omega), h.tr.g2 hg (by omega) (by omega), h.h3⟩
theorem Lp.below (h : Lp w w' H r n p c tk x s m t es) (hb : Below w'.heap.size w' w'') : Lp w w'' H r n p c tk x s m t es := h.g2 (h.st.below hb) (G2.ofBelow hb)
theorem Lp.rd (h : Lp w w' H r n p c tk x s m t es) (hr : RdrAt w'' r n p c tk s') (hg : w'.grownBy w'' (some r)) : Lp w w'' H r n p c tk x s' m t es := h.g2 (h.st.rd hr hg) (G2.ofR hg)
theorem Lp.cat (h : Lp w w' H r n p c tk x s m t es) (hc : CAt w'' r n p c tk x s' m') (hg : G2 r x w' w'') : Lp w w'' H r n p c tk x s' m' t es := h.g2 (h.st.cat hc hg) hg
theorem Lp.drew (h : Lp w w' H r n p c tk x s m t es) (k : Nat) : Lp w (w'.drewN k) H r n p c tk x s m t es := h.below (below_drewN (Below.refl _ _) k)
theorem St.set6 (h : St w w' r n p c tk x s m) {b : Nat} (hb : w.heap.size < b) (v0 v1 v2 v3 v4 v5 : Value) :
    St w ((((((w'.setCell ⟨b, 0, none⟩ v0).setCell ⟨b, 1, none⟩ v1).setCell ⟨b, 2, none⟩ v2).setCell ⟨b, 3, none⟩ v3).setCell ⟨b, 4, none⟩ v4).setCell ⟨b, 5, none⟩ v5) r n p c tk x s m :=
  (((((h.set hb 0 v0).set hb 1 v1).set hb 2 v2).set hb 3 v3).set hb 4 v4).set hb 5 v5
/-- Two parts are joined. -/
theorem Lp.join' {W : World} {u : CT} {fs : List Value} {k : Int} (h : Lp w w' H r n p c tk x s m t es) (hu : CT.At w' (fun b => w.heap.size < b ∧ b ≠ H) u fs) (hI : I64 k) (hl : es.length = 6) (hl2 : fs.length = 6)
    (hF : Far H (w'.alloc (.cells (es ++ fs).toArray 25)) W) (hS : St w W r n p c tk x s m) (hB : Blk W 25 H (cells6 k 0 0 0 0 (.slice (some ⟨w'.heap.size, 0, none⟩) 2 2))) :
    Lp w W H r n p c tk x s m (.mk k 0 0 0 0 [t, u]) (cells6 k 0 0 0 0 (.slice (some ⟨w'.heap.size, 0, none⟩) 2 2)) := by
  have hlt := h.bx.lt
  have hb : Below w'.heap.size w' (w'.alloc (.cells (es ++ fs).toArray 25)) := below_alloc (Below.refl w'.heap.size w') _
  have ht2 := h.tr.below hb
  have hn : Blk (w'.alloc (.cells (es ++ fs).toArray 25)) 25 w'.heap.size (es ++ fs) := Blk.new _ _ _
  have hu2 := hu.below hb
  have hk : ∀ (a : Addr) (v : Value), (w.heap.size < a.block ∧ a.block ≠ H) → (w'.alloc (.cells (es ++ fs).toArray 25)).cell? a = some v → W.cell? a = some v := fun a v hS hc => (World.cell?_of_block (hF.block a.block hS.2)).trans hc
  have hgt : w.heap.size < w'.heap.size := h.st.lt
  have hbn : Blk W 25 w'.heap.size (es ++ fs) := (hF.block _ (by omega)).trans hn
  exact ⟨hS, hB, at_two k hI ⟨hgt, by omega⟩ hl hl2 hbn (CT.At.keep hk _ _ ht2) (CT.At.keep hk _ _ hu2), h.h3⟩
theorem Lp.join {u : CT} {fs : List Value} {L : Array Value} {j0 j1 j2 : Int} {j3 j4 : Int} {sl : Value} (k : Int) (hI : I64 k) (h : Lp w w' H r n p c tk x s m t (cells6 j0 j1 j2 j3 j4 sl)) (hu : CT.At w' (fun b => w.heap.size < b ∧ b ≠ H) u fs) (hl2 : fs.length = 6) (hL : L = (cells6 j0 j1 j2 j3 j4 sl ++ fs).toArray) :
    Lp w (((((((w'.alloc (.cells L 25)).setCell ⟨H, 0, none⟩ (.int .i64 k)).setCell ⟨H, 1, none⟩ (.int .i64 0)).setCell ⟨H, 2, none⟩ (.int .i64 0)).setCell ⟨H, 3, none⟩ (.int .u64 0)).setCell ⟨H, 4, none⟩ (.int .u64 0)).setCell ⟨H, 5, none⟩ (.slice (some ⟨w'.heap.size, 0, none⟩) 2 2)) H r n p c tk x s m (.mk k 0 0 0 0 [t, u]) (cells6 k 0 0 0 0 (.slice (some ⟨w'.heap.size, 0, none⟩) 2 2)) := by
  subst hL
  have hbx := h.bx.alloc (.cells (cells6 j0 j1 j2 j3 j4 sl ++ fs).toArray 25)
  have hA := h.st.alloc (.cells (cells6 j0 j1 j2 j3 j4 sl ++ fs).toArray 25)
  have hj := fun (W : World) hF hS hB => h.join' (W := W) (k := k) hu hI rfl hl2 hF hS hB
  generalize w'.alloc (.cells (cells6 j0 j1 j2 j3 j4 sl ++ fs).toArray 25) = V at *
  exact hj _ (((((((Far.refl H V).set 0 (.int .i64 k)).set 1 (.int .i64 0)).set 2 (.int .i64 0)).set 3 (.int .u64 0)).set 4 (.int .u64 0)).set 5 (.slice (some ⟨w'.heap.size, 0, none⟩) 2 2)) (hA.set6 h.h3 _ _ _ _ _ _) (blk_set6 hbx _ _ _ _ _ _)
theorem kcell (h : St w w' r n p c tk x s m) : w'.cell? ⟨r, 1, none⟩ = some (.int .i64 (s.k : Nat)) := h.c.2.1.1.cell 1
end
/-- What the reader's own cell says of the tokens that are left. -/
def leftK (w : World) (r n : Nat) : Nat := n - (intOf ((w.cell? ⟨r, 1, none⟩).getD undef)).toNat
theorem leftK_of {w : World} {r n k : Nat} (h : w.cell? ⟨r, 1, none⟩ = some (.int .i64 (k : Nat))) : leftK w r n = n - k := by
  unfold leftK
  rw [h]
  simp [intOf]

set_option maxRecDepth 100000 in
set_option maxHeartbeats 3200000 in
theorem both_step (tk : List Tk) (f : Nat) (HO0 : ∀ g, g ≤ f → POK tk g 52 .one 1) : POK tk (f + 1) 46 .both 2 := by
  intro w r n p c x s m h hfw hfu
  have HO := Lib.hid HO0
  obtain ⟨Y, hY⟩ : ∃ Y, Y = parseF tk (f + 1) .both s m := ⟨_, rfl⟩
  rw [← hY]
  have HY := Lib.hid hY
  have hm := hfw.1
  clear hY HO0
  have HS1 := Lib.hid (St.start h)
  have HC := Lib.hid (HO.out f (Nat.le_refl _) _ r n p c x s m (St.start h).c hfw (by omega))
  have HP := Lib.hid (show parseF tk f (.bothL (parseF tk f .one s m).1) (parseF tk f .one s m).2.1 (parseF tk f .one s m).2.2 = Y from by rw [HY.out]; rfl)
  have HFW := Lib.hid (few_parse tk f .one s m hfw)
  have HMK := Lib.hid (mono_parse tk f .one s m)
  generalize parseF tk f .one s m = y at *
  have hxw := h.lt
  clear h
  go_enter Try.func46, Try.ntmps46
  go_wp2_with fail
  refine (HC.out).mono ?_
  rintro e w2 ⟨cs, rfl, ht, hc, hg⟩
  obtain ⟨k1, co1, rg1, ad1, va1, p1, l1, cp1, rfl⟩ := ht.cells
  have HS2 := Lib.hid (HS1.out.cat hc hg)
  have hl2 := HS2.out.lt
  have HL0 := Lib.hid (show Lp w (w2.alloc (.cells #[.int .i64 k1, .int .i64 co1, .int .i64 rg1, .int .u64 ad1, .int .u64 va1, .slice p1 l1 cp1] 25)) w2.heap.size r n p c tk x y.2.1 y.2.2 y.1 (cells6 k1 co1 rg1 ad1 va1 (.slice p1 l1 cp1)) from
    ⟨HS2.out.alloc _, Blk.new _ _ _, (ht.sub (S' := fun b => w.heap.size < b ∧ b ≠ w2.heap.size) (fun g hg1 hg2 => ⟨by simp at hg1; omega, by omega⟩)).below (below_alloc (Below.refl _ _) _), hl2⟩)
  clear hc hg ht HC HS1 HS2
  generalize hH : w2.heap.size = H at *
  go_wp2_with fail
  go_loopw [] (fun wr => ∃ (g : Nat) (t : CT) (s' : RS) (m' : Nat) (es : List Value), parseF tk g (.bothL t) s' m' = Y ∧ 4 * (n - s'.k) + 1 ≤ g ∧ g ≤ f ∧ Few 66 s' m' ∧ Lp w wr H r n p c tk x s' m' t es) (fun wr => leftK wr r n)
  case atStart => exact ⟨f, y.1, y.2.1, y.2.2, _, HP.out, by have := HMK.out.k; omega, Nat.le_refl _, HFW.out, HL0.out⟩
  case round =>
    obtain ⟨g, t, s', m', es, hg1, hg2, hg3, hg4, hg5⟩ := hrel
    obtain ⟨j0, j1, j2, j3, j4, jp, jl, jc, rfl⟩ := hg5.tr.cells
    have HL := Lib.hid hg5
    have HG1 := Lib.hid hg1
    have HG4 := Lib.hid hg4
    have HOK := Lib.hid (ok_any wr hg5.st.c)
    have hc6 := hg4.1
    have hg2' := hg2
    have hg3' := hg3
    clear hg1 hg4 hg5 hg2 hg3
    go_wp2_with fail
    refine (HOK.out).mono ?_
    rintro e w3 ⟨rfl, hb⟩
    have HL3 := Lib.hid (HL.out.below hb)
    clear hb HOK
    obtain ⟨g', rfl⟩ : ∃ g', g = g' + 1 := ⟨g - 1, by omega⟩
    have HI := is_any w3 3 ⟨#[47, 92]⟩ HL3.out.st.c.2.1
    have c0 := HL3.out.st.c0
    have hx3 := HL3.out.st.xlt
    have HND := Lib.hid (fun (h : (okR s' && isR tk s' 3 ⟨#[47, 92]⟩) = false) => show Y = (t, s', m') from by rw [← HG1.out]; simp only [parseF]; rw [h]; rfl)
    cases ho : okR s'
    · have hP := HND.out (by rw [ho]; rfl)
      obtain ⟨⟨z0, z1, z2, z3, z4, z5⟩, y0, y1, y2, y3, y4, y5⟩ := HL3.out.st.zs
      have hz3 := HL3.out.st.lt
      obtain ⟨a0, a1, a2, a3, a4, a5⟩ := blk_cells6 HL3.out.bx
      go_wp2_with fail
      exact HL3.out.st.done (HL3.out.tr.sub (fun g hg _ => hg.1)) hP (fun e W h => h) (fun W hb => results_cell_row rfl _ _ w.heap.size 25 #[.int .i64 j0, .int .i64 j1, .int .i64 j2, .int .u64 j3, .int .u64 j4, .slice jp jl jc] (0, 0) _ rfl hb Try.underlying25 rfl (by kernel_rfl)) rfl
    cases hi : isR tk s' 3 ⟨#[47, 92]⟩
    · have hP := HND.out (by rw [ho, hi]; rfl)
      rw [hi] at HI
      simp only [Bool.false_eq_true, if_false] at HI
      have HI := Lib.hid HI
      go_wp2_with fail
      refine (HI.out).mono ?_
      rintro e w4 ⟨rfl, hr, hg⟩
      have HL4 := Lib.hid (HL3.out.rd hr hg)
      clear hr hg HI HL3 c0 hx3
      obtain ⟨⟨z0, z1, z2, z3, z4, z5⟩, y0, y1, y2, y3, y4, y5⟩ := HL4.out.st.zs
      have hz3 := HL4.out.st.lt
      obtain ⟨a0, a1, a2, a3, a4, a5⟩ := blk_cells6 HL4.out.bx
      go_wp2_with fail
      exact HL4.out.st.done (HL4.out.tr.sub (fun g hg _ => hg.1)) hP (fun e W h => h) (fun W hb => results_cell_row rfl _ _ w.heap.size 25 #[.int .i64 j0, .int .i64 j1, .int .i64 j2, .int .u64 j3, .int .u64 j4, .slice jp jl jc] (0, 0) _ rfl hb Try.underlying25 rfl (by kernel_rfl)) rfl
    · have hk1 := isR_next hi (by decide)
      rw [hi] at HI
      simp only [if_true] at HI
      have HI := Lib.hid HI
      have HY2 := Lib.hid (show parseF tk g' (.bothL (.mk 4 0 0 0 0 [t, (parseF tk g' .one (moreR tk (nextR tk s') m') (m' + 1)).1])) (parseF tk g' .one (moreR tk (nextR tk s') m') (m' + 1)).2.1 (parseF tk g' .one (moreR tk (nextR tk s') m') (m' + 1)).2.2 = Y from by rw [← HG1.out]; simp only [parseF]; rw [ho, hi]; rfl)
      have hm64 := few_ok HG4.out ho
      have c1 := kcell HL.out.st
      go_wp2_with fail
      refine (HI.out).mono ?_
      rintro e w4 ⟨rfl, hr, hg⟩
      have HL4 := Lib.hid (HL3.out.rd hr hg)
      clear hr hg HI HL3 c0 hx3
      have HM := Lib.hid (more_any w4 HL4.out.st.c (by omega))
      have hrm := HL4.out.st.room
      go_wp2_with fail
      refine (HM.out).mono ?_
      rintro e w5 ⟨rfl, hc, hg⟩
      have HL5 := Lib.hid (HL4.out.cat hc hg)
      clear hc hg HM HL4
      have hmk := (mono_more tk (nextR tk s') m').k
      have HF5 := Lib.hid (few_more (tk := tk) (s := nextR tk s') (b := 64) hm64)
      have HC := Lib.hid (HO.out g' (by omega) w5.drew r n p c x _ (m' + 1) (HL5.out.drew 1).st.c HF5.out (by rw [hk1] at hmk hrm; omega))
      have HFW2 := Lib.hid (few_parse tk g' .one _ _ HF5.out)
      have HMK2 := Lib.hid (mono_parse tk g' .one (moreR tk (nextR tk s') m') (m' + 1))
      generalize parseF tk g' .one (moreR tk (nextR tk s') m') (m' + 1) = z at *
      obtain ⟨a0, a1, a2, a3, a4, a5⟩ := blk_cells6 HL5.out.bx
      have hl5 := HL5.out.st.lt
      go_wp2_with fail
      go_region_with (first | (go_at_call 52; refine (HC.out).mono ?_; rintro e w6 ⟨cs, rfl, ht, hc, hg⟩; obtain ⟨k2, co2, rg2, ad2, va2, p2, l2, cp2, rfl⟩ := ht.cells; have HL6 := Lib.hid ((HL5.out.drew 1).cat hc hg); have HT6 := Lib.hid (ht.sub (S' := fun b => w.heap.size < b ∧ b ≠ H) (fun g hg1 hg2 => ⟨by simp at hg1; omega, by have := HL5.out.bx.lt; simp at hg1; omega⟩)); clear ht hc hg; obtain ⟨b0, b1, b2, b3, b4, b5⟩ := blk_cells6 HL6.out.bx; have hH6 := HL6.out.bx.lt; have q0 := HL6.out.bx.free 0; have q1 := HL6.out.bx.free 1; have q2 := HL6.out.bx.free 2; have q3 := HL6.out.bx.free 3; have q4 := HL6.out.bx.free 4; have q5 := HL6.out.bx.free 5))
      all_goals (
        have hz1 := HMK2.out.k
        have hz2 := HL6.out.st.room
        go_wp2_with fail
        go_roundw
        case rel => exact ⟨g', _, z.2.1, z.2.2, _, HY2.out, by rw [hk1] at hmk; omega, by omega, HFW2.out, by rw [set6_alloc _ _ hH6]; exact HL6.out.join 4 (by decide) HT6.out rfl rfl⟩
        case measure =>
          rw [leftK_of c1, leftK_of (k := z.2.1.k) (by rw [set6_alloc _ _ hH6]; exact kcell (HL6.out.join 4 (by decide) HT6.out rfl rfl).st)]
          rw [hk1] at hmk
          omega)

set_option maxRecDepth 100000 in
set_option maxHeartbeats 3200000 in
theorem either_step (tk : List Tk) (f : Nat) (HO0 : ∀ g, g ≤ f → POK tk g 46 .both 2) : POK tk (f + 1) 39 .either 3 := by
  intro w r n p c x s m h hfw hfu
  have HO := Lib.hid HO0
  obtain ⟨Y, hY⟩ : ∃ Y, Y = parseF tk (f + 1) .either s m := ⟨_, rfl⟩
  rw [← hY]
  have HY := Lib.hid hY
  have hm := hfw.1
  clear hY HO0
  have HS1 := Lib.hid (St.start h)
  have HC := Lib.hid (HO.out f (Nat.le_refl _) _ r n p c x s m (St.start h).c hfw (by omega))
  have HP := Lib.hid (show parseF tk f (.eitherL (parseF tk f .both s m).1) (parseF tk f .both s m).2.1 (parseF tk f .both s m).2.2 = Y from by rw [HY.out]; rfl)
  have HFW := Lib.hid (few_parse tk f .both s m hfw)
  have HMK := Lib.hid (mono_parse tk f .both s m)
  generalize parseF tk f .both s m = y at *
  have hxw := h.lt
  clear h
  go_enter Try.func39, Try.ntmps39
  go_wp2_with fail
  refine (HC.out).mono ?_
  rintro e w2 ⟨cs, rfl, ht, hc, hg⟩
  obtain ⟨k1, co1, rg1, ad1, va1, p1, l1, cp1, rfl⟩ := ht.cells
  have HS2 := Lib.hid (HS1.out.cat hc hg)
  have hl2 := HS2.out.lt
  have HL0 := Lib.hid (show Lp w (w2.alloc (.cells #[.int .i64 k1, .int .i64 co1, .int .i64 rg1, .int .u64 ad1, .int .u64 va1, .slice p1 l1 cp1] 25)) w2.heap.size r n p c tk x y.2.1 y.2.2 y.1 (cells6 k1 co1 rg1 ad1 va1 (.slice p1 l1 cp1)) from
    ⟨HS2.out.alloc _, Blk.new _ _ _, (ht.sub (S' := fun b => w.heap.size < b ∧ b ≠ w2.heap.size) (fun g hg1 hg2 => ⟨by simp at hg1; omega, by omega⟩)).below (below_alloc (Below.refl _ _) _), hl2⟩)
  clear hc hg ht HC HS1 HS2
  generalize hH : w2.heap.size = H at *
  go_wp2_with fail
  go_loopw [] (fun wr => ∃ (g : Nat) (t : CT) (s' : RS) (m' : Nat) (es : List Value), parseF tk g (.eitherL t) s' m' = Y ∧ 4 * (n - s'.k) + 1 ≤ g ∧ g ≤ f ∧ Few 66 s' m' ∧ Lp w wr H r n p c tk x s' m' t es) (fun wr => leftK wr r n)
  case atStart => exact ⟨f, y.1, y.2.1, y.2.2, _, HP.out, by have := HMK.out.k; omega, Nat.le_refl _, HFW.out, HL0.out⟩
  case round =>
    obtain ⟨g, t, s', m', es, hg1, hg2, hg3, hg4, hg5⟩ := hrel
    obtain ⟨j0, j1, j2, j3, j4, jp, jl, jc, rfl⟩ := hg5.tr.cells
    have HL := Lib.hid hg5
    have HG1 := Lib.hid hg1
    have HG4 := Lib.hid hg4
    have HOK := Lib.hid (ok_any wr hg5.st.c)
    have hc6 := hg4.1
    have hg2' := hg2
    have hg3' := hg3
    clear hg1 hg4 hg5 hg2 hg3
    go_wp2_with fail
    refine (HOK.out).mono ?_
    rintro e w3 ⟨rfl, hb⟩
    have HL3 := Lib.hid (HL.out.below hb)
    clear hb HOK
    obtain ⟨g', rfl⟩ : ∃ g', g = g' + 1 := ⟨g - 1, by omega⟩
    have HI := is_any w3 3 ⟨#[92, 47]⟩ HL3.out.st.c.2.1
    have c0 := HL3.out.st.c0
    have hx3 := HL3.out.st.xlt
    have HND := Lib.hid (fun (h : (okR s' && isR tk s' 3 ⟨#[92, 47]⟩) = false) => show Y = (t, s', m') from by rw [← HG1.out]; simp only [parseF]; rw [h]; rfl)
    cases ho : okR s'
    · have hP := HND.out (by rw [ho]; rfl)
      obtain ⟨⟨z0, z1, z2, z3, z4, z5⟩, y0, y1, y2, y3, y4, y5⟩ := HL3.out.st.zs
      have hz3 := HL3.out.st.lt
      obtain ⟨a0, a1, a2, a3, a4, a5⟩ := blk_cells6 HL3.out.bx
      go_wp2_with fail
      exact HL3.out.st.done (HL3.out.tr.sub (fun g hg _ => hg.1)) hP (fun e W h => h) (fun W hb => results_cell_row rfl _ _ w.heap.size 25 #[.int .i64 j0, .int .i64 j1, .int .i64 j2, .int .u64 j3, .int .u64 j4, .slice jp jl jc] (0, 0) _ rfl hb Try.underlying25 rfl (by kernel_rfl)) rfl
    cases hi : isR tk s' 3 ⟨#[92, 47]⟩
    · have hP := HND.out (by rw [ho, hi]; rfl)
      rw [hi] at HI
      simp only [Bool.false_eq_true, if_false] at HI
      have HI := Lib.hid HI
      go_wp2_with fail
      refine (HI.out).mono ?_
      rintro e w4 ⟨rfl, hr, hg⟩
      have HL4 := Lib.hid (HL3.out.rd hr hg)
      clear hr hg HI HL3 c0 hx3
      obtain ⟨⟨z0, z1, z2, z3, z4, z5⟩, y0, y1, y2, y3, y4, y5⟩ := HL4.out.st.zs
      have hz3 := HL4.out.st.lt
      obtain ⟨a0, a1, a2, a3, a4, a5⟩ := blk_cells6 HL4.out.bx
      go_wp2_with fail
      exact HL4.out.st.done (HL4.out.tr.sub (fun g hg _ => hg.1)) hP (fun e W h => h) (fun W hb => results_cell_row rfl _ _ w.heap.size 25 #[.int .i64 j0, .int .i64 j1, .int .i64 j2, .int .u64 j3, .int .u64 j4, .slice jp jl jc] (0, 0) _ rfl hb Try.underlying25 rfl (by kernel_rfl)) rfl
    · have hk1 := isR_next hi (by decide)
      rw [hi] at HI
      simp only [if_true] at HI
      have HI := Lib.hid HI
      have HY2 := Lib.hid (show parseF tk g' (.eitherL (.mk 5 0 0 0 0 [t, (parseF tk g' .both (moreR tk (nextR tk s') m') (m' + 1)).1])) (parseF tk g' .both (moreR tk (nextR tk s') m') (m' + 1)).2.1 (parseF tk g' .both (moreR tk (nextR tk s') m') (m' + 1)).2.2 = Y from by rw [← HG1.out]; simp only [parseF]; rw [ho, hi]; rfl)
      have hm64 := few_ok HG4.out ho
      have c1 := kcell HL.out.st
      go_wp2_with fail
      refine (HI.out).mono ?_
      rintro e w4 ⟨rfl, hr, hg⟩
      have HL4 := Lib.hid (HL3.out.rd hr hg)
      clear hr hg HI HL3 c0 hx3
      have HM := Lib.hid (more_any w4 HL4.out.st.c (by omega))
      have hrm := HL4.out.st.room
      go_wp2_with fail
      refine (HM.out).mono ?_
      rintro e w5 ⟨rfl, hc, hg⟩
      have HL5 := Lib.hid (HL4.out.cat hc hg)
      clear hc hg HM HL4
      have hmk := (mono_more tk (nextR tk s') m').k
      have HF5 := Lib.hid (few_more (tk := tk) (s := nextR tk s') (b := 64) hm64)
      have HC := Lib.hid (HO.out g' (by omega) w5.drew r n p c x _ (m' + 1) (HL5.out.drew 1).st.c HF5.out (by rw [hk1] at hmk hrm; omega))
      have HFW2 := Lib.hid (few_parse tk g' .both _ _ HF5.out)
      have HMK2 := Lib.hid (mono_parse tk g' .both (moreR tk (nextR tk s') m') (m' + 1))
      generalize parseF tk g' .both (moreR tk (nextR tk s') m') (m' + 1) = z at *
      obtain ⟨a0, a1, a2, a3, a4, a5⟩ := blk_cells6 HL5.out.bx
      have hl5 := HL5.out.st.lt
      go_wp2_with fail
      go_region_with (first | (go_at_call 46; refine (HC.out).mono ?_; rintro e w6 ⟨cs, rfl, ht, hc, hg⟩; obtain ⟨k2, co2, rg2, ad2, va2, p2, l2, cp2, rfl⟩ := ht.cells; have HL6 := Lib.hid ((HL5.out.drew 1).cat hc hg); have HT6 := Lib.hid (ht.sub (S' := fun b => w.heap.size < b ∧ b ≠ H) (fun g hg1 hg2 => ⟨by simp at hg1; omega, by have := HL5.out.bx.lt; simp at hg1; omega⟩)); clear ht hc hg; obtain ⟨b0, b1, b2, b3, b4, b5⟩ := blk_cells6 HL6.out.bx; have hH6 := HL6.out.bx.lt; have q0 := HL6.out.bx.free 0; have q1 := HL6.out.bx.free 1; have q2 := HL6.out.bx.free 2; have q3 := HL6.out.bx.free 3; have q4 := HL6.out.bx.free 4; have q5 := HL6.out.bx.free 5))
      all_goals (
        have hz1 := HMK2.out.k
        have hz2 := HL6.out.st.room
        go_wp2_with fail
        go_roundw
        case rel => exact ⟨g', _, z.2.1, z.2.2, _, HY2.out, by rw [hk1] at hmk; omega, by omega, HFW2.out, by rw [set6_alloc _ _ hH6]; exact HL6.out.join 5 (by decide) HT6.out rfl rfl⟩
        case measure =>
          rw [leftK_of c1, leftK_of (k := z.2.1.k) (by rw [set6_alloc _ _ hH6]; exact kcell (HL6.out.join 5 (by decide) HT6.out rfl rfl).st)]
          rw [hk1] at hmk
          omega)

/-- Each of the reading functions does what its model does. -/
theorem pok_all (tk : List Tk) : ∀ (f : Nat), POK tk f 52 .one 1 ∧ POK tk f 46 .both 2 ∧ POK tk f 39 .either 3
  | 0 => by
    refine ⟨?_, ?_, ?_⟩ <;> (intro w r n p c x s m _ _ h; omega)
  | f + 1 => by
    have hall : ∀ g, g ≤ f → POK tk g 52 .one 1 ∧ POK tk g 46 .both 2 ∧ POK tk g 39 .either 3 := fun g hg => pok_all tk g
    exact ⟨one_step tk f (hall f (Nat.le_refl _)).2.2 (hall f (Nat.le_refl _)).1, both_step tk f (fun g hg => (hall g hg).1), either_step tk f (fun g hg => (hall g hg).2.1)⟩
termination_by f => f
decreasing_by omega
end Go.Proofs.Yteepoohcdmjmhaa
