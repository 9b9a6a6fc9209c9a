/- The text of an instruction: plainly. -/
import Derived.Test.YtcaifejfkpmeeaaGreatMgaa
import Derived.Test.YtcaifejfkpmeeaaGreatMgab
import Derived.Test.YtcaifejfkpmeeaaGreatMgai
import Derived.Test.YtcaifejfkpmeeaaGreatRows
namespace Go.Proofs.YtcaifejfkpmeeaaGreat
open Go.RowKit
set_option linter.unusedVariables false
set_option linter.unusedSimpArgs false

/-- A state within the loop: what has been read lies in the block H. -/
structure Lp (w w' : World) (H r n : Nat) (p : Option Addr) (c : Nat) (tk : List Tk) (x : Nat) (s : RS) (m : Nat) (t : CT) (es : List Value) : Prop where
  st : St w w' r n p c tk x s m
  bx : Blk w' 29 H es
  tr : CT.At w' (fun b => w.heap.size < b ∧ b ≠ H) t es
  h3 : w.heap.size < H
section
variable {w w' w'' : World} {H r n : Nat} {p : Option Addr} {c : Nat} {tk : List Tk} {x : Nat} {s s' : RS} {m m' : Nat} {t : CT} {es : List Value}
theorem Lp.g2 (h : Lp w w' H r n p c tk x s m t es) (hs : St w w'' r n p c tk x s' m') (hg : G2 r x w' w'') : Lp w w'' H r n p c tk x s' m' t es := by
  have h1 := h.st.hr
  have h2 := h.st.hx
  have h3 := h.h3
  exact ⟨hs, h.bx.g2 hg (by omega) (by omega), h.tr.g2 hg (by omega) (by omega), h.h3⟩
theorem Lp.below (h : Lp w w' H r n p c tk x s m t es) (hb : Below w'.heap.size w' w'') : Lp w w'' H r n p c tk x s m t es := h.g2 (h.st.below hb) (G2.ofBelow hb)
theorem Lp.rd (h : Lp w w' H r n p c tk x s m t es) (hr : RdrAt w'' r n p c tk s') (hg : w'.grownBy w'' (some r)) : Lp w w'' H r n p c tk x s' m t es := h.g2 (h.st.rd hr hg) (G2.ofR hg)
theorem Lp.cat (h : Lp w w' H r n p c tk x s m t es) (hc : CAt w'' r n p c tk x s' m') (hg : G2 r x w' w'') : Lp w w'' H r n p c tk x s' m' t es := h.g2 (h.st.cat hc hg) hg
theorem Lp.drew (h : Lp w w' H r n p c tk x s m t es) (k : Nat) : Lp w (w'.drewN k) H r n p c tk x s m t es := h.below (below_drewN (Below.refl _ _) k)
theorem St.set6 (h : St w w' r n p c tk x s m) {b : Nat} (hb : w.heap.size < b) (v0 v1 v2 v3 v4 v5 : Value) :
    St w ((((((w'.setCell ⟨b, 0, none⟩ v0).setCell ⟨b, 1, none⟩ v1).setCell ⟨b, 2, none⟩ v2).setCell ⟨b, 3, none⟩ v3).setCell ⟨b, 4, none⟩ v4).setCell ⟨b, 5, none⟩ v5) r n p c tk x s m :=
  (((((h.set hb 0 v0).set hb 1 v1).set hb 2 v2).set hb 3 v3).set hb 4 v4).set hb 5 v5
/-- Two parts are joined. -/
theorem Lp.join' {W : World} {u : CT} {fs : List Value} {k : Int} (h : Lp w w' H r n p c tk x s m t es) (hu : CT.At w' (fun b => w.heap.size < b ∧ b ≠ H) u fs) (hI : I64 k) (hl : es.length = 6) (hl2 : fs.length = 6)
    (hF : Far H (w'.alloc (.cells (es ++ fs).toArray 29)) W) (hS : St w W r n p c tk x s m) (hB : Blk W 29 H (cells6 k 0 0 0 0 (.slice (some ⟨w'.heap.size, 0, none⟩) 2 2))) :
    Lp w W H r n p c tk x s m (.mk k 0 0 0 0 [t, u]) (cells6 k 0 0 0 0 (.slice (some ⟨w'.heap.size, 0, none⟩) 2 2)) := by
  have hlt := h.bx.lt
  have hb : Below w'.heap.size w' (w'.alloc (.cells (es ++ fs).toArray 29)) := below_alloc (Below.refl w'.heap.size w') _
  have ht2 := h.tr.below hb
  have hn : Blk (w'.alloc (.cells (es ++ fs).toArray 29)) 29 w'.heap.size (es ++ fs) := Blk.new _ _ _
  have hu2 := hu.below hb
  have hk : ∀ (a : Addr) (v : Value), (w.heap.size < a.block ∧ a.block ≠ H) → (w'.alloc (.cells (es ++ fs).toArray 29)).cell? a = some v → W.cell? a = some v := fun a v hS hc => (World.cell?_of_block (hF.block a.block hS.2)).trans hc
  have hgt : w.heap.size < w'.heap.size := h.st.lt
  have hbn : Blk W 29 w'.heap.size (es ++ fs) := (hF.block _ (by omega)).trans hn
  exact ⟨hS, hB, at_two k hI ⟨hgt, by omega⟩ hl hl2 hbn (CT.At.keep hk _ _ ht2) (CT.At.keep hk _ _ hu2), h.h3⟩
theorem Lp.join {u : CT} {fs : List Value} {L : Array Value} {j0 j1 j2 : Int} {j3 j4 : Int} {sl : Value} (k : Int) (hI : I64 k) (h : Lp w w' H r n p c tk x s m t (cells6 j0 j1 j2 j3 j4 sl)) (hu : CT.At w' (fun b => w.heap.size < b ∧ b ≠ H) u fs) (hl2 : fs.length = 6) (hL : L = (cells6 j0 j1 j2 j3 j4 sl ++ fs).toArray) :
    Lp w (((((((w'.alloc (.cells L 29)).setCell ⟨H, 0, none⟩ (.int .i64 k)).setCell ⟨H, 1, none⟩ (.int .i64 0)).setCell ⟨H, 2, none⟩ (.int .i64 0)).setCell ⟨H, 3, none⟩ (.int .u64 0)).setCell ⟨H, 4, none⟩ (.int .u64 0)).setCell ⟨H, 5, none⟩ (.slice (some ⟨w'.heap.size, 0, none⟩) 2 2)) H r n p c tk x s m (.mk k 0 0 0 0 [t, u]) (cells6 k 0 0 0 0 (.slice (some ⟨w'.heap.size, 0, none⟩) 2 2)) := by
  subst hL
  have hbx := h.bx.alloc (.cells (cells6 j0 j1 j2 j3 j4 sl ++ fs).toArray 29)
  have hA := h.st.alloc (.cells (cells6 j0 j1 j2 j3 j4 sl ++ fs).toArray 29)
  have hj := fun (W : World) hF hS hB => h.join' (W := W) (k := k) hu hI rfl hl2 hF hS hB
  generalize w'.alloc (.cells (cells6 j0 j1 j2 j3 j4 sl ++ fs).toArray 29) = V at *
  exact hj _ (((((((Far.refl H V).set 0 (.int .i64 k)).set 1 (.int .i64 0)).set 2 (.int .i64 0)).set 3 (.int .u64 0)).set 4 (.int .u64 0)).set 5 (.slice (some ⟨w'.heap.size, 0, none⟩) 2 2)) (hA.set6 h.h3 _ _ _ _ _ _) (blk_set6 hbx _ _ _ _ _ _)
theorem kcell (h : St w w' r n p c tk x s m) : w'.cell? ⟨r, 1, none⟩ = some (.int .i64 (s.k : Nat)) := h.c.2.1.1.cell 1
end
/-- What the reader's own cell says of the tokens that are left. -/
def leftK (w : World) (r n : Nat) : Nat := n - (intOf ((w.cell? ⟨r, 1, none⟩).getD undef)).toNat
theorem leftK_of {w : World} {r n k : Nat} (h : w.cell? ⟨r, 1, none⟩ = some (.int .i64 (k : Nat))) : leftK w r n = n - k := by
  unfold leftK
  rw [h]
  simp [intOf]

set_option maxRecDepth 100000 in
set_option maxHeartbeats 3200000 in
theorem both_step (tk : List Tk) (f : Nat) (HO0 : ∀ g, g ≤ f → POK tk g 100 .one 1) : POK tk (f + 1) 80 .both 2 := by
  intro w r n p c x s m h hfw hfu
  have HO := Lib.hid HO0
  obtain ⟨Y, hY⟩ : ∃ Y, Y = parseF tk (f + 1) .both s m := ⟨_, rfl⟩
  rw [← hY]
  have HY := Lib.hid hY
  have hm := hfw.1
  clear hY HO0
  have HS1 := Lib.hid (St.start h)
  have HC := Lib.hid (HO.out f (Nat.le_refl _) _ r n p c x s m (St.start h).c hfw (by omega))
  have HP := Lib.hid (show parseF tk f (.bothL (parseF tk f .one s m).1) (parseF tk f .one s m).2.1 (parseF tk f .one s m).2.2 = Y from by rw [HY.out]; rfl)
  have HFW := Lib.hid (few_parse tk f .one s m hfw)
  have HMK := Lib.hid (mono_parse tk f .one s m)
  generalize parseF tk f .one s m = y at *
  have hxw := h.lt
  clear h
  go_enter Tryz.func80, Tryz.ntmps80
  go_wp2_with fail
  refine (HC.out).mono ?_
  rintro e w2 ⟨cs, rfl, ht, hc, hg⟩
  obtain ⟨k1, co1, rg1, ad1, va1, p1, l1, cp1, rfl⟩ := ht.cells
  have HS2 := Lib.hid (HS1.out.cat hc hg)
  have hl2 := HS2.out.lt
  have HL0 := Lib.hid (show Lp w (w2.alloc (.cells #[.int .i64 k1, .int .i64 co1, .int .i64 rg1, .int .u64 ad1, .int .u64 va1, .slice p1 l1 cp1] 29)) w2.heap.size r n p c tk x y.2.1 y.2.2 y.1 (cells6 k1 co1 rg1 ad1 va1 (.slice p1 l1 cp1)) from
    ⟨HS2.out.alloc _, Blk.new _ _ _, (ht.sub (S' := fun b => w.heap.size < b ∧ b ≠ w2.heap.size) (fun g hg1 hg2 => ⟨by simp at hg1; omega, by omega⟩)).below (below_alloc (Below.refl _ _) _), hl2⟩)
  clear hc hg ht HC HS1 HS2
  generalize hH : w2.heap.size = H at *
  go_wp2_with fail
  go_loopw [] (fun wr => ∃ (g : Nat) (t : CT) (s' : RS) (m' : Nat) (es : List Value), parseF tk g (.bothL t) s' m' = Y ∧ 4 * (n - s'.k) + 1 ≤ g ∧ g ≤ f ∧ Few 66 s' m' ∧ Lp w wr H r n p c tk x s' m' t es) (fun wr => leftK wr r n)
  case atStart => exact ⟨f, y.1, y.2.1, y.2.2, _, HP.out, by have := HMK.out.k; omega, Nat.le_refl _, HFW.out, HL0.out⟩
  case round =>
    obtain ⟨g, t, s', m', es, hg1, hg2, hg3, hg4, hg5⟩ := hrel
    obtain ⟨j0, j1, j2, j3, j4, jp, jl, jc, rfl⟩ := hg5.tr.cells
    have HL := Lib.hid hg5
    have HG1 := Lib.hid hg1
    have HG4 := Lib.hid hg4
    have HOK := Lib.hid (ok_any wr hg5.st.c)
    have hc6 := hg4.1
    have hg2' := hg2
    have hg3' := hg3
    clear hg1 hg4 hg5 hg2 hg3
    go_wp2_with fail
    refine (HOK.out).mono ?_
    rintro e w3 ⟨rfl, hb⟩
    have HL3 := Lib.hid (HL.out.below hb)
    clear hb HOK
    obtain ⟨g', rfl⟩ : ∃ g', g = g' + 1 := ⟨g - 1, by omega⟩
    have HI := is_any w3 3 ⟨#[47, 92]⟩ HL3.out.st.c.2.1
    have c0 := HL3.out.st.c0
    have hx3 := HL3.out.st.xlt
    have HND := Lib.hid (fun (h : (okR s' && isR tk s' 3 ⟨#[47, 92]⟩) = false) => show Y = (t, s', m') from by rw [← HG1.out]; simp only [parseF]; rw [h]; rfl)
    cases ho : okR s'
    · have hP := HND.out (by rw [ho]; rfl)
      obtain ⟨⟨z0, z1, z2, z3, z4, z5⟩, y0, y1, y2, y3, y4, y5⟩ := HL3.out.st.zs
      have hz3 := HL3.out.st.lt
      obtain ⟨a0, a1, a2, a3, a4, a5⟩ := blk_cells6 HL3.out.bx
      go_wp2_with fail
      exact HL3.out.st.done (HL3.out.tr.sub (fun g hg _ => hg.1)) hP (fun e W h => h) (fun W hb => results_cell_row rfl _ _ w.heap.size 29 #[.int .i64 j0, .int .i64 j1, .int .i64 j2, .int .u64 j3, .int .u64 j4, .slice jp jl jc] (0, 0) _ rfl hb Tryz.underlying29 rfl (by kernel_rfl)) rfl
    cases hi : isR tk s' 3 ⟨#[47, 92]⟩
    · have hP := HND.out (by rw [ho, hi]; rfl)
      rw [hi] at HI
      simp only [Bool.false_eq_true, if_false] at HI
      have HI := Lib.hid HI
      go_wp2_with fail
      refine (HI.out).mono ?_
      rintro e w4 ⟨rfl, hr, hg⟩
      have HL4 := Lib.hid (HL3.out.rd hr hg)
      clear hr hg HI HL3 c0 hx3
      obtain ⟨⟨z0, z1, z2, z3, z4, z5⟩, y0, y1, y2, y3, y4, y5⟩ := HL4.out.st.zs
      have hz3 := HL4.out.st.lt
      obtain ⟨a0, a1, a2, a3, a4, a5⟩ := blk_cells6 HL4.out.bx
      go_wp2_with fail
      exact HL4.out.st.done (HL4.out.tr.sub (fun g hg _ => hg.1)) hP (fun e W h => h) (fun W hb => results_cell_row rfl _ _ w.heap.size 29 #[.int .i64 j0, .int .i64 j1, .int .i64 j2, .int .u64 j3, .int .u64 j4, .slice jp jl jc] (0, 0) _ rfl hb Tryz.underlying29 rfl (by kernel_rfl)) rfl
    · have hk1 := isR_next hi (by decide)
      rw [hi] at HI
      simp only [if_true] at HI
      have HI := Lib.hid HI
      have HY2 := Lib.hid (show parseF tk g' (.bothL (.mk 4 0 0 0 0 [t, (parseF tk g' .one (moreR tk (nextR tk s') m') (m' + 1)).1])) (parseF tk g' .one (moreR tk (nextR tk s') m') (m' + 1)).2.1 (parseF tk g' .one (moreR tk (nextR tk s') m') (m' + 1)).2.2 = Y from by rw [← HG1.out]; simp only [parseF]; rw [ho, hi]; rfl)
      have hm64 := few_ok HG4.out ho
      have c1 := kcell HL.out.st
      go_wp2_with fail
      refine (HI.out).mono ?_
      rintro e w4 ⟨rfl, hr, hg⟩
      have HL4 := Lib.hid (HL3.out.rd hr hg)
      clear hr hg HI HL3 c0 hx3
      have HM := Lib.hid (more_any w4 HL4.out.st.c (by omega))
      have hrm := HL4.out.st.room
      go_wp2_with fail
      refine (HM.out).mono ?_
      rintro e w5 ⟨rfl, hc, hg⟩
      have HL5 := Lib.hid (HL4.out.cat hc hg)
      clear hc hg HM HL4
      have hmk := (mono_more tk (nextR tk s') m').k
      have HF5 := Lib.hid (few_more (tk := tk) (s := nextR tk s') (b := 64) hm64)
      have HC := Lib.hid (HO.out g' (by omega) w5.drew r n p c x _ (m' + 1) (HL5.out.drew 1).st.c HF5.out (by rw [hk1] at hmk hrm; omega))
      have HFW2 := Lib.hid (few_parse tk g' .one _ _ HF5.out)
      have HMK2 := Lib.hid (mono_parse tk g' .one (moreR tk (nextR tk s') m') (m' + 1))
      generalize parseF tk g' .one (moreR tk (nextR tk s') m') (m' + 1) = z at *
      obtain ⟨a0, a1, a2, a3, a4, a5⟩ := blk_cells6 HL5.out.bx
      have hl5 := HL5.out.st.lt
      go_wp2_with fail
      go_region_with (first | (go_at_call 100; refine (HC.out).mono ?_; rintro e w6 ⟨cs, rfl, ht, hc, hg⟩; obtain ⟨k2, co2, rg2, ad2, va2, p2, l2, cp2, rfl⟩ := ht.cells; have HL6 := Lib.hid ((HL5.out.drew 1).cat hc hg); have HT6 := Lib.hid (ht.sub (S' := fun b => w.heap.size < b ∧ b ≠ H) (fun g hg1 hg2 => ⟨by simp at hg1; omega, by have := HL5.out.bx.lt; simp at hg1; omega⟩)); clear ht hc hg; obtain ⟨b0, b1, b2, b3, b4, b5⟩ := blk_cells6 HL6.out.bx; have hH6 := HL6.out.bx.lt; have q0 := HL6.out.bx.free 0; have q1 := HL6.out.bx.free 1; have q2 := HL6.out.bx.free 2; have q3 := HL6.out.bx.free 3; have q4 := HL6.out.bx.free 4; have q5 := HL6.out.bx.free 5))
      all_goals (
        have hz1 := HMK2.out.k
        have hz2 := HL6.out.st.room
        go_wp2_with fail
        go_roundw
        case rel => exact ⟨g', _, z.2.1, z.2.2, _, HY2.out, by rw [hk1] at hmk; omega, by omega, HFW2.out, by rw [set6_alloc _ _ hH6]; exact HL6.out.join 4 (by decide) HT6.out rfl rfl⟩
        case measure =>
          rw [leftK_of c1, leftK_of (k := z.2.1.k) (by rw [set6_alloc _ _ hH6]; exact kcell (HL6.out.join 4 (by decide) HT6.out rfl rfl).st)]
          rw [hk1] at hmk
          omega)

set_option maxRecDepth 100000 in
set_option maxHeartbeats 3200000 in
theorem either_step (tk : List Tk) (f : Nat) (HO0 : ∀ g, g ≤ f → POK tk g 80 .both 2) : POK tk (f + 1) 59 .either 3 := by
  intro w r n p c x s m h hfw hfu
  have HO := Lib.hid HO0
  obtain ⟨Y, hY⟩ : ∃ Y, Y = parseF tk (f + 1) .either s m := ⟨_, rfl⟩
  rw [← hY]
  have HY := Lib.hid hY
  have hm := hfw.1
  clear hY HO0
  have HS1 := Lib.hid (St.start h)
  have HC := Lib.hid (HO.out f (Nat.le_refl _) _ r n p c x s m (St.start h).c hfw (by omega))
  have HP := Lib.hid (show parseF tk f (.eitherL (parseF tk f .both s m).1) (parseF tk f .both s m).2.1 (parseF tk f .both s m).2.2 = Y from by rw [HY.out]; rfl)
  have HFW := Lib.hid (few_parse tk f .both s m hfw)
  have HMK := Lib.hid (mono_parse tk f .both s m)
  generalize parseF tk f .both s m = y at *
  have hxw := h.lt
  clear h
  go_enter Tryz.func59, Tryz.ntmps59
  go_wp2_with fail
  refine (HC.out).mono ?_
  rintro e w2 ⟨cs, rfl, ht, hc, hg⟩
  obtain ⟨k1, co1, rg1, ad1, va1, p1, l1, cp1, rfl⟩ := ht.cells
  have HS2 := Lib.hid (HS1.out.cat hc hg)
  have hl2 := HS2.out.lt
  have HL0 := Lib.hid (show Lp w (w2.alloc (.cells #[.int .i64 k1, .int .i64 co1, .int .i64 rg1, .int .u64 ad1, .int .u64 va1, .slice p1 l1 cp1] 29)) w2.heap.size r n p c tk x y.2.1 y.2.2 y.1 (cells6 k1 co1 rg1 ad1 va1 (.slice p1 l1 cp1)) from
    ⟨HS2.out.alloc _, Blk.new _ _ _, (ht.sub (S' := fun b => w.heap.size < b ∧ b ≠ w2.heap.size) (fun g hg1 hg2 => ⟨by simp at hg1; omega, by omega⟩)).below (below_alloc (Below.refl _ _) _), hl2⟩)
  clear hc hg ht HC HS1 HS2
  generalize hH : w2.heap.size = H at *
  go_wp2_with fail
  go_loopw [] (fun wr => ∃ (g : Nat) (t : CT) (s' : RS) (m' : Nat) (es : List Value), parseF tk g (.eitherL t) s' m' = Y ∧ 4 * (n - s'.k) + 1 ≤ g ∧ g ≤ f ∧ Few 66 s' m' ∧ Lp w wr H r n p c tk x s' m' t es) (fun wr => leftK wr r n)
  case atStart => exact ⟨f, y.1, y.2.1, y.2.2, _, HP.out, by have := HMK.out.k; omega, Nat.le_refl _, HFW.out, HL0.out⟩
  case round =>
    obtain ⟨g, t, s', m', es, hg1, hg2, hg3, hg4, hg5⟩ := hrel
    obtain ⟨j0, j1, j2, j3, j4, jp, jl, jc, rfl⟩ := hg5.tr.cells
    have HL := Lib.hid hg5
    have HG1 := Lib.hid hg1
    have HG4 := Lib.hid hg4
    have HOK := Lib.hid (ok_any wr hg5.st.c)
    have hc6 := hg4.1
    have hg2' := hg2
    have hg3' := hg3
    clear hg1 hg4 hg5 hg2 hg3
    go_wp2_with fail
    refine (HOK.out).mono ?_
    rintro e w3 ⟨rfl, hb⟩
    have HL3 := Lib.hid (HL.out.below hb)
    clear hb HOK
    obtain ⟨g', rfl⟩ : ∃ g', g = g' + 1 := ⟨g - 1, by omega⟩
    have HI := is_any w3 3 ⟨#[92, 47]⟩ HL3.out.st.c.2.1
    have c0 := HL3.out.st.c0
    have hx3 := HL3.out.st.xlt
    have HND := Lib.hid (fun (h : (okR s' && isR tk s' 3 ⟨#[92, 47]⟩) = false) => show Y = (t, s', m') from by rw [← HG1.out]; simp only [parseF]; rw [h]; rfl)
    cases ho : okR s'
    · have hP := HND.out (by rw [ho]; rfl)
      obtain ⟨⟨z0, z1, z2, z3, z4, z5⟩, y0, y1, y2, y3, y4, y5⟩ := HL3.out.st.zs
      have hz3 := HL3.out.st.lt
      obtain ⟨a0, a1, a2, a3, a4, a5⟩ := blk_cells6 HL3.out.bx
      go_wp2_with fail
      exact HL3.out.st.done (HL3.out.tr.sub (fun g hg _ => hg.1)) hP (fun e W h => h) (fun W hb => results_cell_row rfl _ _ w.heap.size 29 #[.int .i64 j0, .int .i64 j1, .int .i64 j2, .int .u64 j3, .int .u64 j4, .slice jp jl jc] (0, 0) _ rfl hb Tryz.underlying29 rfl (by kernel_rfl)) rfl
    cases hi : isR tk s' 3 ⟨#[92, 47]⟩
    · have hP := HND.out (by rw [ho, hi]; rfl)
      rw [hi] at HI
      simp only [Bool.false_eq_true, if_false] at HI
      have HI := Lib.hid HI
      go_wp2_with fail
      refine (HI.out).mono ?_
      rintro e w4 ⟨rfl, hr, hg⟩
      have HL4 := Lib.hid (HL3.out.rd hr hg)
      clear hr hg HI HL3 c0 hx3
      obtain ⟨⟨z0, z1, z2, z3, z4, z5⟩, y0, y1, y2, y3, y4, y5⟩ := HL4.out.st.zs
      have hz3 := HL4.out.st.lt
      obtain ⟨a0, a1, a2, a3, a4, a5⟩ := blk_cells6 HL4.out.bx
      go_wp2_with fail
      exact HL4.out.st.done (HL4.out.tr.sub (fun g hg _ => hg.1)) hP (fun e W h => h) (fun W hb => results_cell_row rfl _ _ w.heap.size 29 #[.int .i64 j0, .int .i64 j1, .int .i64 j2, .int .u64 j3, .int .u64 j4, .slice jp jl jc] (0, 0) _ rfl hb Tryz.underlying29 rfl (by kernel_rfl)) rfl
    · have hk1 := isR_next hi (by decide)
      rw [hi] at HI
      simp only [if_true] at HI
      have HI := Lib.hid HI
      have HY2 := Lib.hid (show parseF tk g' (.eitherL (.mk 5 0 0 0 0 [t, (parseF tk g' .both (moreR tk (nextR tk s') m') (m' + 1)).1])) (parseF tk g' .both (moreR tk (nextR tk s') m') (m' + 1)).2.1 (parseF tk g' .both (moreR tk (nextR tk s') m') (m' + 1)).2.2 = Y from by rw [← HG1.out]; simp only [parseF]; rw [ho, hi]; rfl)
      have hm64 := few_ok HG4.out ho
      have c1 := kcell HL.out.st
      go_wp2_with fail
      refine (HI.out).mono ?_
      rintro e w4 ⟨rfl, hr, hg⟩
      have HL4 := Lib.hid (HL3.out.rd hr hg)
      clear hr hg HI HL3 c0 hx3
      have HM := Lib.hid (more_any w4 HL4.out.st.c (by omega))
      have hrm := HL4.out.st.room
      go_wp2_with fail
      refine (HM.out).mono ?_
      rintro e w5 ⟨rfl, hc, hg⟩
      have HL5 := Lib.hid (HL4.out.cat hc hg)
      clear hc hg HM HL4
      have hmk := (mono_more tk (nextR tk s') m').k
      have HF5 := Lib.hid (few_more (tk := tk) (s := nextR tk s') (b := 64) hm64)
      have HC := Lib.hid (HO.out g' (by omega) w5.drew r n p c x _ (m' + 1) (HL5.out.drew 1).st.c HF5.out (by rw [hk1] at hmk hrm; omega))
      have HFW2 := Lib.hid (few_parse tk g' .both _ _ HF5.out)
      have HMK2 := Lib.hid (mono_parse tk g' .both (moreR tk (nextR tk s') m') (m' + 1))
      generalize parseF tk g' .both (moreR tk (nextR tk s') m') (m' + 1) = z at *
      obtain ⟨a0, a1, a2, a3, a4, a5⟩ := blk_cells6 HL5.out.bx
      have hl5 := HL5.out.st.lt
      go_wp2_with fail
      go_region_with (first | (go_at_call 80; refine (HC.out).mono ?_; rintro e w6 ⟨cs, rfl, ht, hc, hg⟩; obtain ⟨k2, co2, rg2, ad2, va2, p2, l2, cp2, rfl⟩ := ht.cells; have HL6 := Lib.hid ((HL5.out.drew 1).cat hc hg); have HT6 := Lib.hid (ht.sub (S' := fun b => w.heap.size < b ∧ b ≠ H) (fun g hg1 hg2 => ⟨by simp at hg1; omega, by have := HL5.out.bx.lt; simp at hg1; omega⟩)); clear ht hc hg; obtain ⟨b0, b1, b2, b3, b4, b5⟩ := blk_cells6 HL6.out.bx; have hH6 := HL6.out.bx.lt; have q0 := HL6.out.bx.free 0; have q1 := HL6.out.bx.free 1; have q2 := HL6.out.bx.free 2; have q3 := HL6.out.bx.free 3; have q4 := HL6.out.bx.free 4; have q5 := HL6.out.bx.free 5))
      all_goals (
        have hz1 := HMK2.out.k
        have hz2 := HL6.out.st.room
        go_wp2_with fail
        go_roundw
        case rel => exact ⟨g', _, z.2.1, z.2.2, _, HY2.out, by rw [hk1] at hmk; omega, by omega, HFW2.out, by rw [set6_alloc _ _ hH6]; exact HL6.out.join 5 (by decide) HT6.out rfl rfl⟩
        case measure =>
          rw [leftK_of c1, leftK_of (k := z.2.1.k) (by rw [set6_alloc _ _ hH6]; exact kcell (HL6.out.join 5 (by decide) HT6.out rfl rfl).st)]
          rw [hk1] at hmk
          omega)

/-- Each of the reading functions does what its model does. -/
theorem pok_all (tk : List Tk) : ∀ (f : Nat), POK tk f 100 .one 1 ∧ POK tk f 80 .both 2 ∧ POK tk f 59 .either 3
  | 0 => by
    refine ⟨?_, ?_, ?_⟩ <;> (intro w r n p c x s m _ _ h; omega)
  | f + 1 => by
    have hall : ∀ g, g ≤ f → POK tk g 100 .one 1 ∧ POK tk g 80 .both 2 ∧ POK tk g 59 .either 3 := fun g hg => pok_all tk g
    exact ⟨one_step tk f (hall f (Nat.le_refl _)).2.2 (hall f (Nat.le_refl _)).1, both_step tk f (fun g hg => (hall g hg).1), either_step tk f (fun g hg => (hall g hg).2.1)⟩
termination_by f => f
decreasing_by omega
end Go.Proofs.YtcaifejfkpmeeaaGreat
namespace Go.Proofs.YtcaifejfkpmeeaaGreat
open Go.RowKit
set_option linter.unusedVariables false
set_option linter.unusedSimpArgs false

theorem G2.grown {r x : Nat} {w w1 w' : World} (hg : G2 r x w1 w') (hb : Below w.heap.size w w1) (hx : w.heap.size ≤ x) : w.grownBy w' (some r) :=
  ⟨hg.os.trans hb.os, hg.tape.trans hb.tape, hg.output.trans hb.output, Nat.le_trans hb.size hg.size, fun i hi hne => (hg.block i (Nat.lt_of_lt_of_le hi hb.size) (fun e => hne (by rw [e])) (by omega)).trans (hb.block i hi)⟩
def parseC (tk : List Tk) (s : RS) : CT × RS := ((parseF tk (4 * tk.length + 3) .either s 0).1, endR tk (parseF tk (4 * tk.length + 3) .either s 0).2.1)
set_option maxRecDepth 100000 in
set_option maxHeartbeats 3200000 in
theorem cparse_any {r n : Nat} {p : Option Addr} {c : Nat} {tk : List Tk} {s : RS} (w : World) (h : RdrAt w r n p c tk s) (hpw : ∀ a, p = some a → a.block < w.heap.size) :
    Calls Tryz.prog 51 #[.pointer (some ⟨r, 0, none⟩)] w fun e w' => ∃ cs : List Value, e = .returned (.agg cs.toArray) ∧ CT.At w' (fun g => w.heap.size ≤ g) (parseC tk s).1 cs ∧ RdrAt w' r n p c tk (parseC tk s).2 ∧ w.grownBy w' (some r) := by
  have hlen := h.2.2.1
  have HB := Lib.hid (show Below w.heap.size w ((w.alloc (.cells #[.int .i64 0, .int .i64 0, .int .i64 0, .int .u64 0, .int .u64 0, .slice none 0 0] 29)).alloc (.cells #[.pointer (some ⟨r, 0, none⟩), .int .i64 0] 118)) from below_alloc (below_alloc (Below.refl _ _) _) _)
  have hrl := h.lt
  have hC : CAt ((w.alloc (.cells #[.int .i64 0, .int .i64 0, .int .i64 0, .int .u64 0, .int .u64 0, .slice none 0 0] 29)).alloc (.cells #[.pointer (some ⟨r, 0, none⟩), .int .i64 0] 118)) r n p c tk (w.heap.size + 1) s 0 := by
    refine ⟨?_, h.below HB.out, by omega, fun a ha => by have := hpw a ha; omega⟩
    simpa using Blk.new (w.alloc (.cells #[.int .i64 0, .int .i64 0, .int .i64 0, .int .u64 0, .int .u64 0, .slice none 0 0] 29)) 118 [.pointer (some ⟨r, 0, none⟩), .int .i64 0]
  have HZ := Lib.hid (show Blk ((w.alloc (.cells #[.int .i64 0, .int .i64 0, .int .i64 0, .int .u64 0, .int .u64 0, .slice none 0 0] 29)).alloc (.cells #[.pointer (some ⟨r, 0, none⟩), .int .i64 0] 118)) 29 w.heap.size [.int .i64 0, .int .i64 0, .int .i64 0, .int .u64 0, .int .u64 0, .slice none 0 0] from (Blk.new w _ _).alloc _)
  have H0 := Lib.hid h
  have HP := Lib.hid (show parseC tk s = ((parseF tk (4 * tk.length + 3) .either s 0).1, endR tk (parseF tk (4 * tk.length + 3) .either s 0).2.1) from rfl)
  have HC := Lib.hid ((pok_all tk (4 * tk.length + 3)).2.2 _ r n p c (w.heap.size + 1) s 0 hC ⟨by omega, fun _ => by omega⟩ (by omega))
  clear h hC
  generalize parseF tk (4 * tk.length + 3) .either s 0 = y at *
  obtain ⟨Y, hY⟩ : ∃ Y, Y = parseC tk s := ⟨_, rfl⟩
  rw [← hY] at HP ⊢
  clear hY
  go_enter Tryz.func51, Tryz.ntmps51
  go_wp2_with fail
  refine (HC.out).mono ?_
  rintro e w2 ⟨cs, rfl, ht, hc, hg⟩
  obtain ⟨k1, co1, rg1, ad1, va1, p1, l1, cp1, rfl⟩ := ht.cells
  have hz2 : w.heap.size + 2 ≤ w2.heap.size := by have := hg.size; simpa using this
  have HZ2 := Lib.hid (HZ.out.g2 hg (by omega) (by omega))
  have HG2 := Lib.hid (hg.grown HB.out (by omega))
  have HB3 := Lib.hid (show Below w2.heap.size w2 (w2.alloc (.cells #[.int .i64 k1, .int .i64 co1, .int .i64 rg1, .int .u64 ad1, .int .u64 va1, .slice p1 l1 cp1] 29)) from below_alloc (Below.refl _ _) _)
  have HN := Lib.hid (show Blk (w2.alloc (.cells #[.int .i64 k1, .int .i64 co1, .int .i64 rg1, .int .u64 ad1, .int .u64 va1, .slice p1 l1 cp1] 29)) 29 w2.heap.size [.int .i64 k1, .int .i64 co1, .int .i64 rg1, .int .u64 ad1, .int .u64 va1, .slice p1 l1 cp1] from Blk.new _ _ _)
  have HT := Lib.hid (ht.sub (S' := fun g => w.heap.size < g) (fun g hg1 hg2 => by simp at hg1; omega))
  have HC2 := Lib.hid hc
  have HE := Lib.hid (end_any _ (hc.below HB3.out).2.1)
  clear hc hg ht HC HZ HB
  have c0 : w2.cell? ⟨w.heap.size + 1, 0, none⟩ = some (.pointer (some ⟨r, 0, none⟩)) := HC2.out.1.cell 0
  have hx2 : w.heap.size + 1 < w2.heap.size := by omega
  go_wp2_with fail
  refine (HE.out).mono ?_
  rintro e w3 ⟨rfl, hr, hg⟩
  have hz3 : w2.heap.size < w3.heap.size := by have := hg.size; simp at this; omega
  have HN3 := Lib.hid (HN.out.kept hg (by intro e; injection e; omega))
  have HZ3 := Lib.hid ((HZ2.out.below HB3.out).kept hg (by intro e; injection e; omega))
  have HR3 := Lib.hid hr
  have HT3 := Lib.hid ((HT.out.below HB3.out).g2 (G2.ofR (x := r) hg) (by omega) (by omega))
  have HG3 := Lib.hid (grown_thenR (grown_thenR HG2.out (grown_below HB3.out)) hg)
  clear hr hg HE HC2 HZ2 HN HT HB3 c0 hx2
  obtain ⟨n0, n1, n2, n3, n4, n5⟩ := blk_cells6 HN3.out
  obtain ⟨z0, z1, z2, z3, z4, z5⟩ := blk_cells6 HZ3.out
  have y0 := HZ3.out.free 0
  have y1 := HZ3.out.free 1
  have y2 := HZ3.out.free 2
  have y3 := HZ3.out.free 3
  have y4 := HZ3.out.free 4
  have y5 := HZ3.out.free 5
  have hzw : w.heap.size < w3.heap.size := by omega
  go_wp2_with fail
  have hB := blk_set6 HZ3.out (.int .i64 k1) (.int .i64 co1) (.int .i64 rg1) (.int .u64 ad1) (.int .u64 va1) (.slice p1 l1 cp1)
  have hF := ((((((Far.refl w.heap.size w3).set 0 (.int .i64 k1)).set 1 (.int .i64 co1)).set 2 (.int .i64 rg1)).set 3 (.int .u64 ad1)).set 4 (.int .u64 va1)).set 5 (.slice p1 l1 cp1)
  have hG := grown_set6 HG3.out (Nat.le_refl _) (.int .i64 k1) (.int .i64 co1) (.int .i64 rg1) (.int .u64 ad1) (.int .u64 va1) (.slice p1 l1 cp1)
  generalize ((((((w3.setCell ⟨w.heap.size, 0, none⟩ (.int .i64 k1)).setCell ⟨w.heap.size, 1, none⟩ (.int .i64 co1)).setCell ⟨w.heap.size, 2, none⟩ (.int .i64 rg1)).setCell ⟨w.heap.size, 3, none⟩ (.int .u64 ad1)).setCell ⟨w.heap.size, 4, none⟩ (.int .u64 va1)).setCell ⟨w.heap.size, 5, none⟩ (.slice p1 l1 cp1)) = W at *
  refine bodyPost_ret (results_cell_row rfl _ _ w.heap.size 29 #[.int .i64 k1, .int .i64 co1, .int .i64 rg1, .int .u64 ad1, .int .u64 va1, .slice p1 l1 cp1] (0, 0) _ rfl hB Tryz.underlying29 rfl (by kernel_rfl)) rfl ⟨cells6 k1 co1 rg1 ad1 va1 (.slice p1 l1 cp1), rfl, ?_, ?_, hG⟩
  · rw [HP.out]
    refine CT.At.sub (S := fun g => w.heap.size < g) (fun g hg _ => Nat.le_of_lt hg) _ _ (CT.At.keep (fun a v hB hc => ?_) _ _ HT3.out)
    exact (World.cell?_of_block (hF.block a.block (by omega))).trans hc
  · rw [HP.out]
    exact H0.out.kept hG ((hF.block r (by omega)).trans HR3.out.1) HR3.out.2.2.2.2.1
end Go.Proofs.YtcaifejfkpmeeaaGreat
namespace Go.Proofs.YtcaifejfkpmeeaaGreat
open Go.RowKit
set_option linter.unusedVariables false
set_option linter.unusedSimpArgs false

def tkOf (s : ByteArray) (at_ : Nat) (l : List (Nat × Nat × Nat)) : List Tk := l.map fun r => ((r.1 : Int), s.extract r.2.1 r.2.2, (at_ : Int) + (r.2.1 : Nat))
theorem tkOf_cells (s : ByteArray) (at_ : Nat) (l : List (Nat × Nat × Nat)) : tkL (tkOf s at_ l) = tokCells s at_ l := by
  simp [tkL, tkOf, tokCells, List.flatMap_map]
theorem own_slice {w : World} {base : Nat} {e : TypeId} {size : Nat} {v : Value} {n : Nat} {xs : List Value} (h : w.ownsRow base e size v n xs) :
    ∃ p c, v = .slice p n c ∧ Rds w size p n xs ∧ (∀ a, p = some a → a.block < w.heap.size) := by
  obtain ⟨p, c, hv, hr, hc⟩ := Rds.of_own h
  refine ⟨p, c, hv, hr, fun a ha => ?_⟩
  obtain ⟨_, ⟨h1, h2⟩ | ⟨g, cap, cur, h1, hb, hg, _⟩⟩ := h
  · rw [h1] at hv; injection hv with e1; rw [← e1] at ha; cases ha
  · rw [h1] at hv; injection hv with e1; rw [← e1] at ha; injection ha with ha; rw [← ha]
    exact (Array.getElem?_eq_some_iff.1 hg).1
theorem toks_len : ∀ (n : Nat) (s : ByteArray) (i : Nat) (acc : List (Nat × Nat × Nat)), s.size - i = n → (toksF s i acc).1.length ≤ acc.length + (s.size - i) + 1 := by
  intro n
  induction n using Nat.strongRecOn with
  | _ n ih =>
    intro s i acc hn
    rw [toksF]
    by_cases h : i < s.size
    · rw [dif_pos h]
      by_cases h9 : (stepF s i).1 = 9
      · rw [if_pos h9]; simp
      · rw [if_neg h9]
        by_cases h2 : i < (stepF s i).2.1
        · rw [dif_pos h2]
          have := ih (s.size - (stepF s i).2.1) (by omega) s (stepF s i).2.1 (if (stepF s i).1 = 0 then acc else acc ++ [((stepF s i).1, i, (stepF s i).2.1)]) rfl
          split at this
          · rename_i h0; rw [if_pos h0]; omega
          · rename_i h0; rw [if_neg h0]; simp at this; omega
        · rw [dif_neg h2]; simp
    · rw [dif_neg h]; simp
theorem read_any {p : Option Addr} {n c : Nat} {tk : List Tk} (w : World) (hr : Rds w 3 p n (tkL tk)) (hl : tk.length = n) (hp : ∀ a, p = some a → a.block < w.heap.size) (hn : n ≤ 1048577) (hs : ∀ t ∈ tk, t.2.1.size ≤ 1048576) :
    Calls Tryz.prog 24 #[.slice p n c] w fun e w' => e = .returned (.pointer (some ⟨w.heap.size, 0, none⟩)) ∧ RdrAt w' w.heap.size n p c tk ⟨0, 0, 0⟩ ∧ Below w.heap.size w w' := by
  have HB := Lib.hid (show Below w.heap.size w (w.alloc (.cells #[.slice p n c, .int .i64 0, .int .i64 0, .int .i64 0] 91)) from below_alloc (Below.refl _ _) _)
  have HN := Lib.hid (show Blk (w.alloc (.cells #[.slice p n c, .int .i64 0, .int .i64 0, .int .i64 0] 91)) 91 w.heap.size [.slice p n c, .int .i64 0, .int .i64 0, .int .i64 0] from Blk.new w _ _)
  have HR := Lib.hid (hr.below HB.out)
  go_enter Tryz.func24, Tryz.ntmps24
  go_wp2_with fail
  go_ret
  exact ⟨rfl, ⟨HN.out, HR.out, hl, fun a ha => by have := hp a ha; omega, by simp, hn, hs⟩, HB.out⟩
end Go.Proofs.YtcaifejfkpmeeaaGreat
namespace Go.Proofs.YtcaifejfkpmeeaaGreat
open Go.RowKit
set_option linter.unusedVariables false
set_option linter.unusedSimpArgs false

abbrev instrW (op d n m imm kind : Int) : Value := .agg #[.int .i64 op, .int .i64 d, .int .i64 n, .int .i64 m, .int .i64 imm, .int .i64 kind]
def inB (n a b : Int) : Bool := decide (a ≤ n ∧ n ≤ b)
theorem inB_true {n a b : Int} (h : inB n a b = true) : a ≤ n ∧ n ≤ b := of_decide_eq_true h

def opB (op : Int) : Bool := decide (1 ≤ op ∧ op ≤ 23)
theorem opB_cases {op : Int} (h : opB op = true) : op = 1 ∨ op = 2 ∨ op = 3 ∨ op = 4 ∨ op = 5 ∨ op = 6 ∨ op = 7 ∨ op = 8 ∨ op = 9 ∨ op = 10 ∨ op = 11 ∨ op = 12 ∨ op = 13 ∨ op = 14 ∨ op = 15 ∨ op = 16 ∨ op = 17 ∨ op = 18 ∨ op = 19 ∨ op = 20 ∨ op = 21 ∨ op = 22 ∨ op = 23 := by
  have := of_decide_eq_true h; omega

def rightA (op d n m : Int) : Prop := (1 ≤ op ∧ op ≤ 23) ∧ (0 ≤ d ∧ d ≤ 31) ∧ (0 ≤ n ∧ n ≤ 31) ∧ (0 ≤ m ∧ m ≤ 31)
def rightB (op d n m imm kind : Int) : Prop := (d = 0 ∨ op = 2 ∨ op = 3 ∨ op = 4 ∨ op = 5 ∨ op = 6 ∨ op = 7 ∨ op = 8 ∨ op = 9 ∨ op = 10 ∨ op = 11 ∨ op = 12 ∨ op = 13 ∨ op = 15 ∨ op = 16 ∨ op = 21 ∨ op = 23) ∧ (n = 0 ∨ op = 2 ∨ op = 3 ∨ op = 4 ∨ op = 5 ∨ op = 7 ∨ op = 8 ∨ op = 9 ∨ op = 10 ∨ op = 11 ∨ op = 12 ∨ op = 13) ∧ (m = 0 ∨ op = 8 ∨ op = 9 ∨ op = 10 ∨ op = 11 ∨ op = 12 ∨ op = 13) ∧ (imm = 0 ∨ op = 2 ∨ op = 3 ∨ op = 6 ∨ op = 7 ∨ op = 14 ∨ op = 15 ∨ op = 16 ∨ op = 17) ∧ (kind = 0 ∨ op = 6 ∨ op = 17 ∨ op = 18 ∨ op = 19 ∨ op = 21 ∨ op = 23)
def rightC (op imm kind : Int) : Prop := ((op = 2 ∨ op = 3) → 0 ≤ imm ∧ imm ≤ 32760 ∧ imm % 8 = 0) ∧ (op = 7 → 0 ≤ imm ∧ imm ≤ 4095) ∧ (op = 6 → 0 ≤ imm ∧ imm ≤ 65535 ∧ 0 ≤ kind ∧ kind ≤ 3) ∧
  (op = 14 → -33554432 ≤ imm ∧ imm ≤ 33554431) ∧ ((op = 15 ∨ op = 16) → -262144 ≤ imm ∧ imm ≤ 262143) ∧ (op = 17 → -262144 ≤ imm ∧ imm ≤ 262143 ∧ 0 ≤ kind ∧ kind ≤ 1)
def rightD (op d kind : Int) : Prop := ((op = 18 ∨ op = 19) → (9 ≤ kind ∧ kind ≤ 11) ∨ (13 ≤ kind ∧ kind ≤ 15)) ∧ (op = 21 → 0 ≤ kind ∧ kind ≤ 7 ∧ (¬ kind % 4 = 0 ∨ d = 31)) ∧ (op = 23 → 0 ≤ kind ∧ kind ≤ 2)
def rightP (op d n m imm kind : Int) : Prop := rightA op d n m ∧ rightB op d n m imm kind ∧ rightC op imm kind ∧ rightD op d kind
instance (op d n m : Int) : Decidable (rightA op d n m) := by unfold rightA; infer_instance
instance (op d n m imm kind : Int) : Decidable (rightB op d n m imm kind) := by unfold rightB; infer_instance
instance (op imm kind : Int) : Decidable (rightC op imm kind) := by unfold rightC; infer_instance
instance (op d kind : Int) : Decidable (rightD op d kind) := by unfold rightD; infer_instance
instance (op d n m imm kind : Int) : Decidable (rightP op d n m imm kind) := by unfold rightP; infer_instance
theorem tmod_iff (a : Int) (b : Nat) : a.tmod b = 0 ↔ a % b = 0 := by
  rw [← Int.dvd_iff_tmod_eq_zero, ← Int.dvd_iff_emod_eq_zero]
def rightI (op d n m imm kind : Int) : Bool := decide (rightP op d n m imm kind)
theorem right_yes {op d n m imm kind : Int} (h : rightP op d n m imm kind) : rightI op d n m imm kind = true := decide_eq_true h
theorem right_not {op d n m imm kind : Int} (h : ¬ rightP op d n m imm kind) : rightI op d n m imm kind = false := decide_eq_false h
theorem right_iff {op d n m imm kind : Int} {b : Bool} (h : b = true ↔ rightP op d n m imm kind) : b = rightI op d n m imm kind := by
  unfold rightI
  cases b with
  | true => exact (decide_eq_true (h.1 rfl)).symm
  | false => exact (decide_eq_false (fun hp => by cases h.2 hp)).symm

end Go.Proofs.YtcaifejfkpmeeaaGreat
namespace Go.Proofs.YtcaifejfkpmeeaaGreat
open Go.RowKit
set_option linter.unusedVariables false
set_option linter.unusedSimpArgs false

def nameL (op : Int) : List UInt8 := if op = 1 then [78, 79, 80] else if op = 2 then [76, 68, 82] else if op = 3 then [83, 84, 82] else if op = 4 then [76, 68, 65, 82] else if op = 5 then [83, 84, 76, 82] else if op = 7 then [65, 68, 68] else if op = 8 then [65, 68, 68] else if op = 9 then [83, 85, 66] else if op = 10 then [65, 78, 68] else if op = 11 then [79, 82, 82] else if op = 12 then [69, 79, 82] else if op = 13 then [83, 85, 66, 83] else if op = 14 then [66] else if op = 15 then [67, 66, 90] else if op = 16 then [67, 66, 78, 90] else if op = 20 then [73, 83, 66] else if op = 22 then [69, 82, 69, 84] else []
def barL (k : Int) : List UInt8 := if k = 15 then [83, 89] else if k = 13 then [76, 68] else if k = 14 then [83, 84] else if k = 11 then [73, 83, 72] else if k = 9 then [73, 83, 72, 76, 68] else if k = 10 then [73, 83, 72, 83, 84] else []
def flushL (k : Int) : List UInt8 := if k = 0 then [86, 77, 65, 76, 76, 69, 49, 73, 83] else if k = 1 then [86, 65, 69, 49, 73, 83] else if k = 2 then [86, 65, 65, 69, 49, 73, 83] else if k = 3 then [65, 83, 73, 68, 69, 49, 73, 83] else if k = 4 then [86, 77, 65, 76, 76, 69, 49] else if k = 5 then [86, 65, 69, 49] else if k = 6 then [86, 65, 65, 69, 49] else if k = 7 then [65, 83, 73, 68, 69, 49] else []
def sysL (k : Int) : List UInt8 := if k = 0 then [69, 83, 82, 95, 69, 76, 49] else if k = 1 then [70, 65, 82, 95, 69, 76, 49] else if k = 2 then [69, 76, 82, 95, 69, 76, 49] else []
def targetL (n : Int) : List UInt8 := if n < 0 then [46] ++ intL n else [46, 43] ++ intL n
def immL (n : Int) : List UInt8 := [35] ++ intL n
def threeL (op d n m : Int) : List UInt8 := nameL op ++ [32] ++ regL d ++ [44] ++ regL n ++ [44] ++ regL m
/-- The text of an instruction that may be. -/
def textA (op d n m imm kind : Int) : List UInt8 :=
  if op = 1 ∨ op = 20 ∨ op = 22 then nameL op
  else if (op = 2 ∨ op = 3) ∧ ¬ imm = 0 then nameL op ++ [32] ++ regL d ++ [44, 91] ++ regL n ++ [44] ++ immL imm ++ [93]
  else if op = 2 ∨ op = 3 ∨ op = 4 ∨ op = 5 then nameL op ++ [32] ++ regL d ++ [44, 91] ++ regL n ++ [93]
  else if op = 6 then (if kind = 0 then [77, 79, 86, 32] ++ regL d ++ [44] ++ immL imm else [77, 79, 86, 90, 32] ++ regL d ++ [44] ++ immL imm ++ [44, 76, 83, 76, 32, 35] ++ intL (16 * kind))
  else if op = 7 then [65, 68, 68, 32] ++ regL d ++ [44] ++ regL n ++ [44] ++ immL imm
  else if op = 14 then [66, 32] ++ targetL imm
  else if op = 15 ∨ op = 16 then nameL op ++ [32] ++ regL d ++ [44] ++ targetL imm
  else if op = 17 then (if kind = 0 then [66, 46, 69, 81, 32] ++ targetL imm else [66, 46, 78, 69, 32] ++ targetL imm)
  else if op = 18 then [68, 77, 66, 32] ++ barL kind
  else if op = 19 then [68, 83, 66, 32] ++ barL kind
  else if op = 21 then (if kind % 4 = 0 then [84, 76, 66, 73, 32] ++ flushL kind else [84, 76, 66, 73, 32] ++ flushL kind ++ [44] ++ regL d)
  else if op = 23 then [77, 82, 83, 32] ++ regL d ++ [44] ++ sysL kind
  else if op = 13 ∧ d = 31 then [67, 77, 80, 32] ++ regL n ++ [44] ++ regL m
  else threeL op d n m
def printA (op d n m imm kind : Int) : List UInt8 := if rightP op d n m imm kind then textA op d n m imm kind else []
end Go.Proofs.YtcaifejfkpmeeaaGreat
