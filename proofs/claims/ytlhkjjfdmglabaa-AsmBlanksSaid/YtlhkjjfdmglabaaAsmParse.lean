/- asm.Parse: a text's instruction. -/
import Derived.Test.YtlhkjjfdmglabaaAsmInstr
namespace Go.Proofs.Ytlhkjjfdmglabaa
open Go.RowKit
set_option linter.unusedVariables false
set_option linter.unusedSimpArgs false

theorem glueW_le (c : UInt8) (l : List UInt8) (ws : List (List UInt8)) (n : Nat) (h : ∀ q ∈ ws, q.length ≤ n) : ∀ q ∈ glueW c l ws, q.length ≤ n + 1 := by
  intro q hq
  unfold glueW at hq
  split at hq
  · split at hq
    · rcases List.mem_cons.1 hq with rfl | hq
      · have := h _ (List.mem_cons_self); simp; omega
      · have := h q (List.mem_cons_of_mem _ hq); omega
    · rcases List.mem_cons.1 hq with rfl | hq
      · simp
      · have := h q hq; omega
  · rcases List.mem_cons.1 hq with rfl | hq
    · simp
    · have := h q hq; omega
theorem wordsL_le : ∀ l : List UInt8, ∀ q ∈ wordsL l, q.length ≤ l.length
  | [], q, hq => by simp [wordsL] at hq
  | c :: l, q, hq => by
    have ih := wordsL_le l
    unfold wordsL at hq
    split at hq
    · have := ih q hq; simp; omega
    · split at hq
      · rcases List.mem_cons.1 hq with rfl | hq
        · simp
        · have := ih q hq; simp; omega
      · have := glueW_le c l (wordsL l) l.length ih q hq; simpa using this
/-- The reader that Parse makes. -/
theorem ard_new {w : World} {base n c : Nat} {p : Option Addr} {l : List UInt8} (h : w.ownsRow base 9 1 (.slice p n c) (wordsL l).length ((wordsL l).map strV)) (hl : l.length ≤ 1100000) :
    ARd (w.alloc (.cells #[.slice p n c, .bool false] 46)) w.heap.size w.heap.size (wordsL l, false) := by
  obtain ⟨p', c', hv, hR, hlc⟩ := Rds.of_own h
  cases hv
  have hcm : c ≤ maxLen := by
    obtain ⟨_, ⟨h1, _⟩ | ⟨g, cap, cur, h1, h2, h3, h4, h5, _⟩⟩ := h
    · simp only [Value.slice.injEq] at h1; rw [h1.2.2]; unfold maxLen; omega
    · simp only [Value.slice.injEq] at h1; rw [h1.2.2]; exact h5
  have hpl : ∀ a, p = some a → a.block < w.heap.size := by
    intro a ha
    subst ha
    obtain ⟨_, ⟨h1, _⟩ | ⟨g, cap, cur, h1, h2, h3, h4, h5, _⟩⟩ := h
    · simp only [Value.slice.injEq] at h1; cases h1.1
    · simp only [Value.slice.injEq] at h1; obtain ⟨h6, _⟩ := h1; injection h6 with h6; subst h6; exact (Array.getElem?_eq_some_iff.1 h3).1
  refine ⟨p, c, Blk.new w _ [.slice p (wordsL l).length c, .bool false], hR.below (below_alloc (Below.refl _ _) _), hlc, hcm, fun a ha => by have := hpl a ha; omega, fun q hq => ?_, hpl, by simp⟩
  have := wordsL_le l q hq
  omega
theorem bel6 {w w' : World} {B g : Nat} (h : Below B w w') (hg : B ≤ g) (x : Ins) : Below B w (iset w' g x) :=
  (((((h.setCell hg _).setCell hg _).setCell hg _).setCell hg _).setCell hg _).setCell hg _
theorem parseA_yes {l : List UInt8} {x : Ins} {s : AS} (h : instrA (wordsL l, false) = (x, s)) (h1 : s.2 = false) (h2 : s.1 = []) (h3 : rightP x.op x.d x.n x.m x.imm x.kind) : parseA l = (x, 0) := by
  unfold parseA; rw [h]; simp only; rw [if_pos ⟨h1, h2, h3⟩]
theorem parseA_no {l : List UInt8} {x : Ins} {s : AS} (h : instrA (wordsL l, false) = (x, s)) (h1 : ¬ (s.2 = false ∧ s.1 = [] ∧ rightP x.op x.d x.n x.m x.imm x.kind)) : parseA l = (Ins.none, 40) := by
  unfold parseA; rw [h]; simp only; rw [if_neg h1]
set_option maxRecDepth 100000 in
set_option maxHeartbeats 1600000 in
theorem aparse_any (s : ByteArray) (w : World) (hs : s.size ≤ 1100000) :
    Calls Try.prog 12 #[.string s] w fun e w' => e = .returned (.tuple #[insV (parseA s.data.toList).1, .int .i64 (parseA s.data.toList).2]) ∧ Below w.heap.size w w' := by
  have hsl : s.data.toList.length ≤ 1100000 := by rw [← Lib.size_eq]; exact hs
  have HA := Lib.hid (own_instr w 0 0 0 0 0 0)
  have HB := Lib.hid (below_alloc (Below.refl w.heap.size w) (.cells #[.int .i64 0, .int .i64 0, .int .i64 0, .int .i64 0, .int .i64 0, .int .i64 0] 23))
  have HW := Lib.hid (words_any s (w.alloc (.cells #[.int .i64 0, .int .i64 0, .int .i64 0, .int .i64 0, .int .i64 0, .int .i64 0] 23)) hs)
  have HY := Lib.hid (fun x s1 (h : instrA (wordsL s.data.toList, false) = (x, s1)) h1 h2 h3 => parseA_yes h h1 h2 h3)
  have HN := Lib.hid (fun x s1 (h : instrA (wordsL s.data.toList, false) = (x, s1)) h1 => parseA_no h h1)
  have HAN := Lib.hid (fun w1 base n c p (h : World.ownsRow w1 base 9 1 (.slice p n c) (wordsL s.data.toList).length ((wordsL s.data.toList).map strV)) => ard_new h hsl)
  have HI := Lib.hid (fun w1 r G (h : ARd w1 r G (wordsL s.data.toList, false)) => ainstr_any w1 h)
  generalize hq : instrA (wordsL s.data.toList, false) = q at *
  obtain ⟨⟨o, d, n, m, i, k⟩, ws, bad⟩ := q
  clear hq hsl
  generalize parseA s.data.toList = R at *
  go_enter Try.func12, Try.ntmps12
  go_wp2_with fail
  refine (HW.out).mono ?_
  rintro e w2 ⟨v, rfl, ho, hb⟩
  obtain ⟨p, c, rfl, _⟩ := own_form ho
  have HR := Lib.hid (HAN.out _ _ _ _ _ ho)
  have HB2 := Lib.hid (below_alloc (below_trans HB.out hb) (.cells #[.slice p (wordsL s.data.toList).length c, .bool false] 46))
  have HA2 := Lib.hid ((HA.out.below hb).alloc (.cells #[.slice p (wordsL s.data.toList).length c, .bool false] 46))
  have hA2 := (HA.out.below hb).lt
  have HC := Lib.hid (HI.out _ _ _ HR.out)
  clear ho hb HW HAN HI HB HA
  go_wp2_with fail
  refine (HC.out).mono ?_
  rintro e w3 ⟨rfl, hr, hg⟩
  simp only at hr
  have hw23 : w2.heap.size < w3.heap.size := by have := hg.size; simp at this; omega
  have HB3 := Lib.hid (HB2.out.grown hg (by simp; omega) (fun k hk => by cases hk; omega))
  have HA3 := Lib.hid (HA2.out.kept hg (by intro e; injection e; omega))
  have HR3 := Lib.hid hr
  have hrl := hr.lt
  obtain ⟨p, cc, hB, _⟩ := hr
  have c0 := hB.cell 0
  have c1 := hB.cell 1
  have f0 := hB.free 0
  have f1 := hB.free 1
  simp only [List.getElem?_cons_zero, List.getElem?_cons_succ] at c0 c1
  clear hB
  obtain ⟨a0, a1, a2, a3, a4, a5⟩ := blk_instr HA3.out
  obtain ⟨af0, af1, af2, af3, af4, af5⟩ := free_instr HA3.out
  have hA3 := HA3.out.lt
  clear hg HC HB2 HA2 HR
  (try simp only [insV, instrW])
  (try simp only at c0 c1)
  have HRT := Lib.hid (fun w1 => iright_any o d n m i k w1)
  cases bad with
  | true =>
    have HP := Lib.hid (HN.out _ _ rfl (by simp))
    go_wp2_with fail
    refine bodyPost_ret (results_cell_tmp_row rfl _ _ w.heap.size 23 #[.int .i64 0, .int .i64 0, .int .i64 0, .int .i64 0, .int .i64 0, .int .i64 0] (0, 0) _ rfl ((ins_set6 HA3.out ⟨0, 0, 0, 0, 0, 0⟩).alloc (.cells #[.int .i64 o, .int .i64 d, .int .i64 n, .int .i64 m, .int .i64 i, .int .i64 k] 23)) Try.underlying23 rfl (by kernel_rfl)) rfl ?_
    exact ⟨by rw [HP.out]; rfl, below_alloc (bel6 HB3.out (Nat.le_refl _) ⟨0, 0, 0, 0, 0, 0⟩) _⟩
  | false =>
    cases ws with
    | cons x ws =>
      have HP := Lib.hid (HN.out _ _ rfl (by simp))
      have hne : (0 : Int) < (ws.length : Int) + 1 := by omega
      simp only [List.length_cons] at c0
      go_wp2_with fail
      refine bodyPost_ret (results_cell_tmp_row rfl _ _ w.heap.size 23 #[.int .i64 0, .int .i64 0, .int .i64 0, .int .i64 0, .int .i64 0, .int .i64 0] (0, 0) _ rfl ((ins_set6 HA3.out ⟨0, 0, 0, 0, 0, 0⟩).alloc (.cells #[.int .i64 o, .int .i64 d, .int .i64 n, .int .i64 m, .int .i64 i, .int .i64 k] 23)) Try.underlying23 rfl (by kernel_rfl)) rfl ?_
      exact ⟨by rw [HP.out]; rfl, below_alloc (bel6 HB3.out (Nat.le_refl _) ⟨0, 0, 0, 0, 0, 0⟩) _⟩
    | nil =>
      simp only [List.length_nil] at c0
      by_cases hr : rightP o d n m i k
      · have HP := Lib.hid (HY.out _ _ rfl rfl rfl hr)
        rw [show rightN o d n m i k = 0 from if_pos hr] at HRT
        clear hr
        go_wp2_with fail
        refine (HRT.out _).mono ?_
        rintro e w4 ⟨rfl, hb⟩
        have HA4 := Lib.hid ((HA3.out.alloc (.cells #[.int .i64 o, .int .i64 d, .int .i64 n, .int .i64 m, .int .i64 i, .int .i64 k] 23)).below hb)
        have HO4 := Lib.hid ((own_instr w3 o d n m i k).below hb)
        have HB4 := Lib.hid (below_trans (below_alloc HB3.out (.cells #[.int .i64 o, .int .i64 d, .int .i64 n, .int .i64 m, .int .i64 i, .int .i64 k] 23)) hb)
        have hA4 := HA4.out.lt
        have hO4 := HO4.out.lt
        clear a0 a1 a2 a3 a4 a5 af0 af1 af2 af3 af4 af5 hb
        obtain ⟨a0, a1, a2, a3, a4, a5⟩ := blk_instr HA4.out
        obtain ⟨af0, af1, af2, af3, af4, af5⟩ := free_instr HA4.out
        obtain ⟨b0, b1, b2, b3, b4, b5⟩ := blk_instr HO4.out
        go_wp2_with fail
        refine bodyPost_ret (results_cell_tmp_row rfl _ _ w.heap.size 23 #[.int .i64 o, .int .i64 d, .int .i64 n, .int .i64 m, .int .i64 i, .int .i64 k] (0, 0) _ rfl (ins_set6 HA4.out ⟨o, d, n, m, i, k⟩) Try.underlying23 rfl (by kernel_rfl)) rfl ?_
        exact ⟨by rw [HP.out]; rfl, bel6 HB4.out (Nat.le_refl _) ⟨o, d, n, m, i, k⟩⟩
      · have HP := Lib.hid (HN.out _ _ rfl (by simp [hr]))
        rw [show rightN o d n m i k = 30 from if_neg hr] at HRT
        clear hr
        go_wp2_with fail
        refine (HRT.out _).mono ?_
        rintro e w4 ⟨rfl, hb⟩
        have HA4 := Lib.hid ((HA3.out.alloc (.cells #[.int .i64 o, .int .i64 d, .int .i64 n, .int .i64 m, .int .i64 i, .int .i64 k] 23)).below hb)
        have HB4 := Lib.hid (below_trans (below_alloc HB3.out (.cells #[.int .i64 o, .int .i64 d, .int .i64 n, .int .i64 m, .int .i64 i, .int .i64 k] 23)) hb)
        have hA4 := HA4.out.lt
        clear a0 a1 a2 a3 a4 a5 af0 af1 af2 af3 af4 af5 hb
        obtain ⟨a0, a1, a2, a3, a4, a5⟩ := blk_instr HA4.out
        obtain ⟨af0, af1, af2, af3, af4, af5⟩ := free_instr HA4.out
        go_wp2_with fail
        refine bodyPost_ret (results_cell_tmp_row rfl _ _ w.heap.size 23 #[.int .i64 0, .int .i64 0, .int .i64 0, .int .i64 0, .int .i64 0, .int .i64 0] (0, 0) _ rfl (ins_set6 HA4.out ⟨0, 0, 0, 0, 0, 0⟩) Try.underlying23 rfl (by kernel_rfl)) rfl ?_
        exact ⟨by rw [HP.out]; rfl, bel6 HB4.out (Nat.le_refl _) ⟨0, 0, 0, 0, 0, 0⟩⟩
end Go.Proofs.Ytlhkjjfdmglabaa
