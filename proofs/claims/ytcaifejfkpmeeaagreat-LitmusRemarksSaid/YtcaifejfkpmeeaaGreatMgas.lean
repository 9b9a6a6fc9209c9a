/- Contracts of mask and Aligned of the package field. -/
import Derived.Test.YtcaifejfkpmeeaaGreatMgaa
import Derived.Test.YtcaifejfkpmeeaaGreatMgab
import Derived.Test.YtcaifejfkpmeeaaGreatMgal
import Derived.Test.YtcaifejfkpmeeaaGreatMgar
import Derived.Test.YtcaifejfkpmeeaaGreatRows
namespace Go.Proofs.YtcaifejfkpmeeaaGreat
open Go.RowKit
set_option linter.unusedVariables false
set_option linter.unusedSimpArgs false

theorem glueW_le (c : UInt8) (l : List UInt8) (ws : List (List UInt8)) (n : Nat) (h : ∀ q ∈ ws, q.length ≤ n) : ∀ q ∈ glueW c l ws, q.length ≤ n + 1 := by
  intro q hq
  unfold glueW at hq
  split at hq
  · split at hq
    · rcases List.mem_cons.1 hq with rfl | hq
      · have := h _ (List.mem_cons_self); simp; omega
      · have := h q (List.mem_cons_of_mem _ hq); omega
    · rcases List.mem_cons.1 hq with rfl | hq
      · simp
      · have := h q hq; omega
  · rcases List.mem_cons.1 hq with rfl | hq
    · simp
    · have := h q hq; omega
theorem wordsL_le : ∀ l : List UInt8, ∀ q ∈ wordsL l, q.length ≤ l.length
  | [], q, hq => by simp [wordsL] at hq
  | c :: l, q, hq => by
    have ih := wordsL_le l
    unfold wordsL at hq
    split at hq
    · have := ih q hq; simp; omega
    · split at hq
      · rcases List.mem_cons.1 hq with rfl | hq
        · simp
        · have := ih q hq; simp; omega
      · have := glueW_le c l (wordsL l) l.length ih q hq; simpa using this
/-- The reader that Parse makes. -/
theorem ard_new {w : World} {base n c : Nat} {p : Option Addr} {l : List UInt8} (h : w.ownsRow base 9 1 (.slice p n c) (wordsL l).length ((wordsL l).map strV)) (hl : l.length ≤ 1100000) :
    ARd (w.alloc (.cells #[.slice p n c, .bool false] 107)) w.heap.size w.heap.size (wordsL l, false) := by
  obtain ⟨p', c', hv, hR, hlc⟩ := Rds.of_own h
  cases hv
  have hcm : c ≤ maxLen := by
    obtain ⟨_, ⟨h1, _⟩ | ⟨g, cap, cur, h1, h2, h3, h4, h5, _⟩⟩ := h
    · simp only [Value.slice.injEq] at h1; rw [h1.2.2]; unfold maxLen; omega
    · simp only [Value.slice.injEq] at h1; rw [h1.2.2]; exact h5
  have hpl : ∀ a, p = some a → a.block < w.heap.size := by
    intro a ha
    subst ha
    obtain ⟨_, ⟨h1, _⟩ | ⟨g, cap, cur, h1, h2, h3, h4, h5, _⟩⟩ := h
    · simp only [Value.slice.injEq] at h1; cases h1.1
    · simp only [Value.slice.injEq] at h1; obtain ⟨h6, _⟩ := h1; injection h6 with h6; subst h6; exact (Array.getElem?_eq_some_iff.1 h3).1
  refine ⟨p, c, Blk.new w _ [.slice p (wordsL l).length c, .bool false], hR.below (below_alloc (Below.refl _ _) _), hlc, hcm, fun a ha => by have := hpl a ha; omega, fun q hq => ?_, hpl, by simp⟩
  have := wordsL_le l q hq
  omega
theorem bel6 {w w' : World} {B g : Nat} (h : Below B w w') (hg : B ≤ g) (x : Ins) : Below B w (iset w' g x) :=
  (((((h.setCell hg _).setCell hg _).setCell hg _).setCell hg _).setCell hg _).setCell hg _
theorem parseA_yes {l : List UInt8} {x : Ins} {s : AS} (h : instrA (wordsL l, false) = (x, s)) (h1 : s.2 = false) (h2 : s.1 = []) (h3 : rightP x.op x.d x.n x.m x.imm x.kind) : parseA l = (x, 0) := by
  unfold parseA; rw [h]; simp only; rw [if_pos ⟨h1, h2, h3⟩]
theorem parseA_no {l : List UInt8} {x : Ins} {s : AS} (h : instrA (wordsL l, false) = (x, s)) (h1 : ¬ (s.2 = false ∧ s.1 = [] ∧ rightP x.op x.d x.n x.m x.imm x.kind)) : parseA l = (Ins.none, 40) := by
  unfold parseA; rw [h]; simp only; rw [if_neg h1]
set_option maxRecDepth 100000 in
set_option maxHeartbeats 1600000 in
theorem aparse_any (s : ByteArray) (w : World) (hs : s.size ≤ 1100000) :
    Calls Tryz.prog 37 #[.string s] w fun e w' => e = .returned (.tuple #[insV (parseA s.data.toList).1, .int .i64 (parseA s.data.toList).2]) ∧ Below w.heap.size w w' := by
  have hsl : s.data.toList.length ≤ 1100000 := by rw [← Lib.size_eq]; exact hs
  have HA := Lib.hid (own_instr w 0 0 0 0 0 0)
  have HB := Lib.hid (below_alloc (Below.refl w.heap.size w) (.cells #[.int .i64 0, .int .i64 0, .int .i64 0, .int .i64 0, .int .i64 0, .int .i64 0] 82))
  have HW := Lib.hid (words_any s (w.alloc (.cells #[.int .i64 0, .int .i64 0, .int .i64 0, .int .i64 0, .int .i64 0, .int .i64 0] 82)) hs)
  have HY := Lib.hid (fun x s1 (h : instrA (wordsL s.data.toList, false) = (x, s1)) h1 h2 h3 => parseA_yes h h1 h2 h3)
  have HN := Lib.hid (fun x s1 (h : instrA (wordsL s.data.toList, false) = (x, s1)) h1 => parseA_no h h1)
  have HAN := Lib.hid (fun w1 base n c p (h : World.ownsRow w1 base 9 1 (.slice p n c) (wordsL s.data.toList).length ((wordsL s.data.toList).map strV)) => ard_new h hsl)
  have HI := Lib.hid (fun w1 r G (h : ARd w1 r G (wordsL s.data.toList, false)) => ainstr_any w1 h)
  generalize hq : instrA (wordsL s.data.toList, false) = q at *
  obtain ⟨⟨o, d, n, m, i, k⟩, ws, bad⟩ := q
  clear hq hsl
  generalize parseA s.data.toList = R at *
  go_enter Tryz.func37, Tryz.ntmps37
  go_wp2_with fail
  refine (HW.out).mono ?_
  rintro e w2 ⟨v, rfl, ho, hb⟩
  obtain ⟨p, c, rfl, _⟩ := own_form ho
  have HR := Lib.hid (HAN.out _ _ _ _ _ ho)
  have HB2 := Lib.hid (below_alloc (below_trans HB.out hb) (.cells #[.slice p (wordsL s.data.toList).length c, .bool false] 107))
  have HA2 := Lib.hid ((HA.out.below hb).alloc (.cells #[.slice p (wordsL s.data.toList).length c, .bool false] 107))
  have hA2 := (HA.out.below hb).lt
  have HC := Lib.hid (HI.out _ _ _ HR.out)
  clear ho hb HW HAN HI HB HA
  go_wp2_with fail
  refine (HC.out).mono ?_
  rintro e w3 ⟨rfl, hr, hg⟩
  simp only at hr
  have hw23 : w2.heap.size < w3.heap.size := by have := hg.size; simp at this; omega
  have HB3 := Lib.hid (HB2.out.grown hg (by simp; omega) (fun k hk => by cases hk; omega))
  have HA3 := Lib.hid (HA2.out.kept hg (by intro e; injection e; omega))
  have HR3 := Lib.hid hr
  have hrl := hr.lt
  obtain ⟨p, cc, hB, _⟩ := hr
  have c0 := hB.cell 0
  have c1 := hB.cell 1
  have f0 := hB.free 0
  have f1 := hB.free 1
  simp only [List.getElem?_cons_zero, List.getElem?_cons_succ] at c0 c1
  clear hB
  obtain ⟨a0, a1, a2, a3, a4, a5⟩ := blk_instr HA3.out
  obtain ⟨af0, af1, af2, af3, af4, af5⟩ := free_instr HA3.out
  have hA3 := HA3.out.lt
  clear hg HC HB2 HA2 HR
  (try simp only [insV, instrW])
  (try simp only at c0 c1)
  have HRT := Lib.hid (fun w1 => iright_any o d n m i k w1)
  cases bad with
  | true =>
    have HP := Lib.hid (HN.out _ _ rfl (by simp))
    go_wp2_with fail
    refine bodyPost_ret (results_cell_tmp_row rfl _ _ w.heap.size 82 #[.int .i64 0, .int .i64 0, .int .i64 0, .int .i64 0, .int .i64 0, .int .i64 0] (0, 0) _ rfl ((ins_set6 HA3.out ⟨0, 0, 0, 0, 0, 0⟩).alloc (.cells #[.int .i64 o, .int .i64 d, .int .i64 n, .int .i64 m, .int .i64 i, .int .i64 k] 82)) Tryz.underlying82 rfl (by kernel_rfl)) rfl ?_
    exact ⟨by rw [HP.out]; rfl, below_alloc (bel6 HB3.out (Nat.le_refl _) ⟨0, 0, 0, 0, 0, 0⟩) _⟩
  | false =>
    cases ws with
    | cons x ws =>
      have HP := Lib.hid (HN.out _ _ rfl (by simp))
      have hne : (0 : Int) < (ws.length : Int) + 1 := by omega
      simp only [List.length_cons] at c0
      go_wp2_with fail
      refine bodyPost_ret (results_cell_tmp_row rfl _ _ w.heap.size 82 #[.int .i64 0, .int .i64 0, .int .i64 0, .int .i64 0, .int .i64 0, .int .i64 0] (0, 0) _ rfl ((ins_set6 HA3.out ⟨0, 0, 0, 0, 0, 0⟩).alloc (.cells #[.int .i64 o, .int .i64 d, .int .i64 n, .int .i64 m, .int .i64 i, .int .i64 k] 82)) Tryz.underlying82 rfl (by kernel_rfl)) rfl ?_
      exact ⟨by rw [HP.out]; rfl, below_alloc (bel6 HB3.out (Nat.le_refl _) ⟨0, 0, 0, 0, 0, 0⟩) _⟩
    | nil =>
      simp only [List.length_nil] at c0
      by_cases hr : rightP o d n m i k
      · have HP := Lib.hid (HY.out _ _ rfl rfl rfl hr)
        rw [show rightN o d n m i k = 0 from if_pos hr] at HRT
        clear hr
        go_wp2_with fail
        refine (HRT.out _).mono ?_
        rintro e w4 ⟨rfl, hb⟩
        have HA4 := Lib.hid ((HA3.out.alloc (.cells #[.int .i64 o, .int .i64 d, .int .i64 n, .int .i64 m, .int .i64 i, .int .i64 k] 82)).below hb)
        have HO4 := Lib.hid ((own_instr w3 o d n m i k).below hb)
        have HB4 := Lib.hid (below_trans (below_alloc HB3.out (.cells #[.int .i64 o, .int .i64 d, .int .i64 n, .int .i64 m, .int .i64 i, .int .i64 k] 82)) hb)
        have hA4 := HA4.out.lt
        have hO4 := HO4.out.lt
        clear a0 a1 a2 a3 a4 a5 af0 af1 af2 af3 af4 af5 hb
        obtain ⟨a0, a1, a2, a3, a4, a5⟩ := blk_instr HA4.out
        obtain ⟨af0, af1, af2, af3, af4, af5⟩ := free_instr HA4.out
        obtain ⟨b0, b1, b2, b3, b4, b5⟩ := blk_instr HO4.out
        go_wp2_with fail
        refine bodyPost_ret (results_cell_tmp_row rfl _ _ w.heap.size 82 #[.int .i64 o, .int .i64 d, .int .i64 n, .int .i64 m, .int .i64 i, .int .i64 k] (0, 0) _ rfl (ins_set6 HA4.out ⟨o, d, n, m, i, k⟩) Tryz.underlying82 rfl (by kernel_rfl)) rfl ?_
        exact ⟨by rw [HP.out]; rfl, bel6 HB4.out (Nat.le_refl _) ⟨o, d, n, m, i, k⟩⟩
      · have HP := Lib.hid (HN.out _ _ rfl (by simp [hr]))
        rw [show rightN o d n m i k = 30 from if_neg hr] at HRT
        clear hr
        go_wp2_with fail
        refine (HRT.out _).mono ?_
        rintro e w4 ⟨rfl, hb⟩
        have HA4 := Lib.hid ((HA3.out.alloc (.cells #[.int .i64 o, .int .i64 d, .int .i64 n, .int .i64 m, .int .i64 i, .int .i64 k] 82)).below hb)
        have HB4 := Lib.hid (below_trans (below_alloc HB3.out (.cells #[.int .i64 o, .int .i64 d, .int .i64 n, .int .i64 m, .int .i64 i, .int .i64 k] 82)) hb)
        have hA4 := HA4.out.lt
        clear a0 a1 a2 a3 a4 a5 af0 af1 af2 af3 af4 af5 hb
        obtain ⟨a0, a1, a2, a3, a4, a5⟩ := blk_instr HA4.out
        obtain ⟨af0, af1, af2, af3, af4, af5⟩ := free_instr HA4.out
        go_wp2_with fail
        refine bodyPost_ret (results_cell_tmp_row rfl _ _ w.heap.size 82 #[.int .i64 0, .int .i64 0, .int .i64 0, .int .i64 0, .int .i64 0, .int .i64 0] (0, 0) _ rfl (ins_set6 HA4.out ⟨0, 0, 0, 0, 0, 0⟩) Tryz.underlying82 rfl (by kernel_rfl)) rfl ?_
        exact ⟨by rw [HP.out]; rfl, bel6 HB4.out (Nat.le_refl _) ⟨0, 0, 0, 0, 0, 0⟩⟩
end Go.Proofs.YtcaifejfkpmeeaaGreat
namespace Go.Proofs.YtcaifejfkpmeeaaGreat
open Go.RowKit
set_option linter.unusedVariables false
set_option linter.unusedSimpArgs false

/-- Which part of a test a block belongs to; 0: none. -/
def lab (kind idx : Nat) : Nat := 16 * idx + kind
/-- Blocks may change whose label is in L. -/
structure GL (f : Nat → Nat) (L : Nat → Prop) (w w' : World) : Prop where
  os : w'.os = w.os
  tape : w'.tape = w.tape
  output : w'.output = w.output
  size : w.heap.size ≤ w'.heap.size
  block : ∀ i, i < w.heap.size → ¬ L (f i) → w'.heap[i]? = w.heap[i]?
theorem GL.refl (f : Nat → Nat) (L : Nat → Prop) (w : World) : GL f L w w := ⟨rfl, rfl, rfl, Nat.le_refl _, fun _ _ _ => rfl⟩
theorem GL.trans {f f' : Nat → Nat} {L : Nat → Prop} {a b c : World} (h : GL f L a b) (k : GL f' L b c) (hf : ∀ i, i < a.heap.size → f' i = f i) : GL f L a c :=
  ⟨k.os.trans h.os, k.tape.trans h.tape, k.output.trans h.output, Nat.le_trans h.size k.size, fun i hi hl => (k.block i (Nat.lt_of_lt_of_le hi h.size) (by rw [hf i hi]; exact hl)).trans (h.block i hi hl)⟩
theorem GL.mono {f : Nat → Nat} {L L' : Nat → Prop} {a b : World} (h : GL f L a b) (hl : ∀ n, L n → L' n) : GL f L' a b := ⟨h.os, h.tape, h.output, h.size, fun i hi hn => h.block i hi (fun hL => hn (hl _ hL))⟩
theorem GL.ofBelow {f : Nat → Nat} {L : Nat → Prop} {a b : World} (h : Below a.heap.size a b) : GL f L a b := ⟨h.os, h.tape, h.output, h.size, fun i hi _ => h.block i hi⟩
theorem GL.ofRow {f : Nat → Nat} {L : Nat → Prop} {a b : World} {row : Option Nat} (h : a.grownBy b row) (hr : ∀ g, row = some g → L (f g)) : GL f L a b :=
  ⟨h.os, h.tape, h.output, h.size, fun i hi hn => h.block i hi (fun e => hn (hr i e.symm))⟩
theorem GL.set {f : Nat → Nat} {L : Nat → Prop} {a b : World} (h : GL f L a b) {g : Nat} (hg : L (f g)) (j : Nat) (v : Value) : GL f L a (b.setCell ⟨g, j, none⟩ v) :=
  ⟨h.os, h.tape, h.output, by simpa using h.size, fun i hi hn => (Below.heap_setCell b _ v i (fun e => hn (by rw [e]; exact hg))).trans (h.block i hi hn)⟩
/-- A row of one's own, with its label. -/
def OwnL (w : World) (f : Nat → Nat) (B l : Nat) (e : TypeId) (size : Nat) (v : Value) (n : Nat) (xs : List Value) : Prop := w.ownsRow B e size v n xs ∧ ∀ g, v.ownBlock = some g → f g = l
section
variable {w w' : World} {f f' : Nat → Nat} {B l : Nat} {e : TypeId} {size : Nat} {v : Value} {n : Nat} {xs : List Value}
theorem OwnL.gl {L : Nat → Prop} (h : OwnL w f B l e size v n xs) (hg : GL f L w w') (hl : ¬ L l) : OwnL w' f B l e size v n xs := by
  obtain ⟨⟨h1, h2⟩, h3⟩ := h
  refine ⟨⟨h1, ?_⟩, h3⟩
  rcases h2 with h2 | ⟨g, cap, cur, rfl, hb, hgg, rest⟩
  · exact .inl h2
  · have hf := h3 g rfl
    exact .inr ⟨g, cap, cur, rfl, hb, (hg.block g (Array.getElem?_eq_some_iff.1 hgg).1 (by rw [hf]; exact hl)).trans hgg, rest⟩
theorem OwnL.lt (h : OwnL w f B l e size v n xs) : ∀ g, v.ownBlock = some g → B ≤ g ∧ g < w.heap.size := fun g hg => h.1.lt g hg
theorem OwnL.relab (h : OwnL w f B l e size v n xs) (hf : ∀ g, g < w.heap.size → f' g = f g) : OwnL w f' B l e size v n xs :=
  ⟨h.1, fun g hg => by rw [hf g (h.lt g hg).2]; exact h.2 g hg⟩
theorem OwnL.nil (w : World) (f : Nat → Nat) (B l : Nat) (e : TypeId) (size : Nat) : OwnL w f B l e size (.slice none 0 0) 0 [] := ⟨⟨by simp, .inl ⟨rfl, rfl⟩⟩, fun g hg => by simp [Value.ownBlock] at hg⟩
/-- What an append leaves: the new row, under labels that are as they were. -/
theorem OwnL.app {v' : Value} {m : Nat} {ys : List Value} (h : OwnL w f B l e size v n xs) (hg : w.grownBy w' v.ownBlock) (ho : w'.ownsRow B e size v' m ys) (hk : ∀ k, v'.ownBlock = some k → v.ownBlock = some k ∨ w.heap.size ≤ k) :
    ∃ f', (∀ g, g < w.heap.size → f' g = f g) ∧ OwnL w' f' B l e size v' m ys ∧ GL f (fun n => n = l) w w' := by
  have hG : GL f (fun n => n = l) w w' := GL.ofRow hg (fun g hv => h.2 g hv)
  cases hv : v'.ownBlock with
  | none => exact ⟨f, fun _ _ => rfl, ⟨ho, fun g hg => by rw [hv] at hg; cases hg⟩, hG⟩
  | some k =>
    rcases hk k hv with h1 | h1
    · exact ⟨f, fun _ _ => rfl, ⟨ho, fun g hg => by rw [hv] at hg; injection hg with hg; subst hg; exact h.2 k h1⟩, hG⟩
    · refine ⟨fun i => if i = k then l else f i, fun g hgl => if_neg (by omega), ⟨ho, fun g hg => ?_⟩, hG⟩
      rw [hv] at hg; injection hg with hg; subst hg
      exact if_pos rfl
end
theorem Blk.gl {w w' : World} {f : Nat → Nat} {L : Nat → Prop} {T : TypeId} {g : Nat} {cs : List Value} (h : Blk w T g cs) (hg : GL f L w w') (hl : ¬ L (f g)) : Blk w' T g cs := (hg.block g h.lt hl).trans h

/-! The parts. -/
def u64V (n : Nat) : Value := .int .u64 (n : Int)
def i64V (n : Int) : Value := .int .i64 n
def insL (l : List Ins) : List Value := l.flatMap fun x => instrL x.op x.d x.n x.m x.imm x.kind
def cellL (l : List (Nat × Nat)) : List Value := l.flatMap fun x => [u64V x.1, u64V x.2]
/-- A core's three rows. -/
structure CoreV where
  r : Value
  c : Value
  h : Value
def coreC (cv : CoreV) (c : CoreA) : List Value := [cv.r, .int .i64 (c.space : Nat), u64V c.table, cv.c, cv.h]
def coresC : List CoreV → List CoreA → List Value
  | cv :: cvs, c :: cs => coreC cv c ++ coresC cvs cs
  | _, _ => []
def CoreOwn (w : World) (f : Nat → Nat) (B i : Nat) (cv : CoreV) (c : CoreA) : Prop :=
  OwnL w f B (lab 10 i) 26 1 cv.r c.regs.length (c.regs.map u64V) ∧ OwnL w f B (lab 11 i) 82 6 cv.c c.code.length (insL c.code) ∧ OwnL w f B (lab 12 i) 82 6 cv.h c.hand.length (insL c.hand)
/-- The rows' slices. -/
structure SrcV where
  vC : Value
  vCo : Value
  k0 : Value
  k1 : Value
  k2 : Value
  k3 : Value
  k4 : Value
  k5 : Value
  vT : Value
  vPT : Value
  vPC : Value
  vPCo : Value
  vPI : Value
  cvs : List CoreV
  ivs : List Value
def condC (v : SrcV) : List Value := [v.k0, v.k1, v.k2, v.k3, v.k4, v.k5]
def srcC (x : SrcA) (v : SrcV) : List Value := [.string x.name, v.vC, v.vCo, .bool x.fa, v.k0, v.k1, v.k2, v.k3, v.k4, v.k5, v.vT, v.vPT, v.vPC, v.vPCo, v.vPI, .int .i64 x.pCond]
def stC (x : SrcA) (v : SrcV) : List Value := [.string x.name, v.vC, v.vCo, .bool x.fa, v.k0, v.k1, v.k2, v.k3, v.k4, v.k5, v.vT, v.vPT, v.vPC, v.vPCo, v.vPI, .int .i64 x.pCond, .int .i64 (x.after : Nat)]
/-- No part is longer than n. -/
structure Sizes (x : SrcA) (n : Nat) : Prop where
  cells : x.cells.length ≤ n
  cores : x.cores.length ≤ n
  tables : x.tables.length ≤ n
  pT : x.pT.length ≤ n
  pC : x.pC.length ≤ n
  pCo : x.pCo.length ≤ n
  pI : x.pI.length ≤ n
  ins : ∀ q ∈ x.pI, q.length ≤ n
  code : ∀ c ∈ x.cores, c.code.length ≤ n ∧ c.hand.length ≤ n ∧ c.regs.length = 31
/-- The rows. -/
structure Parts (w : World) (f : Nat → Nat) (B : Nat) (x : SrcA) (v : SrcV) : Prop where
  cells : OwnL w f B (lab 6 0) 51 2 v.vC x.cells.length (cellL x.cells)
  cores : OwnL w f B (lab 7 0) 49 5 v.vCo x.cores.length (coresC v.cvs x.cores)
  lenc : v.cvs.length = x.cores.length
  core : ∀ (i : Nat) (h : i < x.cores.length) (h' : i < v.cvs.length), CoreOwn w f B i v.cvs[i] x.cores[i]
  cond : CT.At w (fun g => f g = lab 8 0 ∧ g < w.heap.size) x.cond (condC v)
  tables : OwnL w f B (lab 1 0) 26 1 v.vT x.tables.length (x.tables.map u64V)
  pT : OwnL w f B (lab 2 0) 3 1 v.vPT x.pT.length (x.pT.map i64V)
  pC : OwnL w f B (lab 3 0) 3 1 v.vPC x.pC.length (x.pC.map i64V)
  pCo : OwnL w f B (lab 4 0) 3 1 v.vPCo x.pCo.length (x.pCo.map i64V)
  pI : OwnL w f B (lab 5 0) 33 1 v.vPI x.pI.length v.ivs
  leni : v.ivs.length = x.pI.length
  ins : ∀ (i : Nat) (h : i < x.pI.length) (h' : i < v.ivs.length), OwnL w f B (lab 13 i) 3 1 v.ivs[i] x.pI[i].length (x.pI[i].map i64V)
/-- The rows whose labels are not in L. -/
structure PartsL (L : Nat → Prop) (w : World) (f : Nat → Nat) (B : Nat) (x : SrcA) (v : SrcV) : Prop where
  cells : ¬ L (lab 6 0) → OwnL w f B (lab 6 0) 51 2 v.vC x.cells.length (cellL x.cells)
  cores : ¬ L (lab 7 0) → OwnL w f B (lab 7 0) 49 5 v.vCo x.cores.length (coresC v.cvs x.cores)
  lenc : v.cvs.length = x.cores.length
  core : ∀ (i : Nat) (h : i < x.cores.length) (h' : i < v.cvs.length),
    (¬ L (lab 10 i) → OwnL w f B (lab 10 i) 26 1 v.cvs[i].r x.cores[i].regs.length (x.cores[i].regs.map u64V)) ∧ (¬ L (lab 11 i) → OwnL w f B (lab 11 i) 82 6 v.cvs[i].c x.cores[i].code.length (insL x.cores[i].code)) ∧ (¬ L (lab 12 i) → OwnL w f B (lab 12 i) 82 6 v.cvs[i].h x.cores[i].hand.length (insL x.cores[i].hand))
  cond : ¬ L (lab 8 0) → CT.At w (fun g => f g = lab 8 0 ∧ g < w.heap.size) x.cond (condC v)
  tables : ¬ L (lab 1 0) → OwnL w f B (lab 1 0) 26 1 v.vT x.tables.length (x.tables.map u64V)
  pT : ¬ L (lab 2 0) → OwnL w f B (lab 2 0) 3 1 v.vPT x.pT.length (x.pT.map i64V)
  pC : ¬ L (lab 3 0) → OwnL w f B (lab 3 0) 3 1 v.vPC x.pC.length (x.pC.map i64V)
  pCo : ¬ L (lab 4 0) → OwnL w f B (lab 4 0) 3 1 v.vPCo x.pCo.length (x.pCo.map i64V)
  pI : ¬ L (lab 5 0) → OwnL w f B (lab 5 0) 33 1 v.vPI x.pI.length v.ivs
  leni : v.ivs.length = x.pI.length
  ins : ∀ (i : Nat) (h : i < x.pI.length) (h' : i < v.ivs.length), ¬ L (lab 13 i) → OwnL w f B (lab 13 i) 3 1 v.ivs[i] x.pI[i].length (x.pI[i].map i64V)
theorem Parts.but {w w' : World} {f f' : Nat → Nat} {B : Nat} {x : SrcA} {v : SrcV} {L : Nat → Prop} (h : Parts w f B x v) (hg : GL f L w w') (hf : ∀ g, g < w.heap.size → f' g = f g) : PartsL L w' f' B x v := by
  have key : ∀ {l : Nat} {e : TypeId} {size : Nat} {v : Value} {n : Nat} {xs : List Value}, OwnL w f B l e size v n xs → ¬ L l → OwnL w' f' B l e size v n xs := fun h hn => by
    have h1 := h.gl hg hn
    exact ⟨h1.1, fun g hv => by rw [hf g (h.lt g hv).2]; exact h1.2 g hv⟩
  refine ⟨key h.cells, key h.cores, h.lenc, fun i h1 h2 => ?_, fun hn => ?_, key h.tables, key h.pT, key h.pC, key h.pCo, key h.pI, h.leni, fun i h1 h2 => key (h.ins i h1 h2)⟩
  · obtain ⟨a, b, c⟩ := h.core i h1 h2
    exact ⟨key a, key b, key c⟩
  · refine CT.At.sub (S := fun g => f g = lab 8 0 ∧ g < w.heap.size) (fun g hS _ => ⟨by rw [hf g hS.2]; exact hS.1, Nat.lt_of_lt_of_le hS.2 hg.size⟩) _ _ ?_
    exact CT.At.keep (fun a u hS hc => (World.cell?_of_block (hg.block a.block hS.2 (by rw [hS.1]; exact hn))).trans hc) _ _ h.cond
/-- The parts that are not in a set of labels stand. -/
theorem Parts.gl {w w' : World} {f f' : Nat → Nat} {B : Nat} {x : SrcA} {v : SrcV} {L : Nat → Prop} (h : Parts w f B x v) (hg : GL f L w w') (hf : ∀ g, g < w.heap.size → f' g = f g) (hl : ∀ k i, 1 ≤ k → k ≤ 13 → ¬ L (lab k i)) : Parts w' f' B x v := by
  have p := h.but hg hf
  exact ⟨p.cells (hl 6 0 (by decide) (by decide)), p.cores (hl 7 0 (by decide) (by decide)), p.lenc, fun i h1 h2 => ⟨(p.core i h1 h2).1 (hl 10 i (by decide) (by decide)), (p.core i h1 h2).2.1 (hl 11 i (by decide) (by decide)), (p.core i h1 h2).2.2 (hl 12 i (by decide) (by decide))⟩, p.cond (hl 8 0 (by decide) (by decide)), p.tables (hl 1 0 (by decide) (by decide)), p.pT (hl 2 0 (by decide) (by decide)), p.pC (hl 3 0 (by decide) (by decide)), p.pCo (hl 4 0 (by decide) (by decide)), p.pI (hl 5 0 (by decide) (by decide)), p.leni, fun i h1 h2 => p.ins i h1 h2 (hl 13 i (by decide) (by decide))⟩
theorem lab_ne (k i l : Nat) (h1 : 1 ≤ k) (h2 : k ≤ 13) (hl : l % 16 = 0 ∨ 14 ≤ l % 16) : ¬ lab k i = l := by unfold lab; omega
/-- A test under way in block g. -/
structure ST (w : World) (f : Nat → Nat) (B g n : Nat) (x : SrcA) (v : SrcV) : Prop where
  blk : Blk w 56 g (stC x v)
  lg : f g = lab 9 0
  le : B ≤ g
  parts : Parts w f B x v
  sizes : Sizes x n
  small : n ≤ 20000
section
variable {w w' : World} {f f' : Nat → Nat} {B g n : Nat} {x : SrcA} {v : SrcV}
theorem ST.lt (h : ST w f B g n x v) : g < w.heap.size := h.blk.lt
/-- What touches no part of the test leaves it. -/
theorem ST.gl {L : Nat → Prop} (h : ST w f B g n x v) (hg : GL f L w w') (hf : ∀ i, i < w.heap.size → f' i = f i) (hl : ∀ l, L l → l % 16 = 0 ∨ 14 ≤ l % 16) : ST w' f' B g n x v :=
  ⟨h.blk.gl hg (by rw [h.lg]; exact fun hL => lab_ne 9 0 _ (by decide) (by decide) (hl _ hL) rfl), by rw [hf g h.lt]; exact h.lg, h.le, h.parts.gl hg hf (fun k i h1 h2 hL => lab_ne k i _ h1 h2 (hl _ hL) rfl), h.sizes, h.small⟩
theorem ST.below (h : ST w f B g n x v) (hb : Below w.heap.size w w') : ST w' f B g n x v := h.gl (L := fun _ => False) (GL.ofBelow hb) (fun _ _ => rfl) (fun _ h => h.elim)
theorem ST.rd {r : Nat} (h : ST w f B g n x v) (hg : w.grownBy w' (some r)) (hr : f r = lab 14 0) : ST w' f B g n x v :=
  h.gl (L := fun l => l = lab 14 0) (GL.ofRow hg (fun k hk => by injection hk with hk; subst hk; exact hr)) (fun _ _ => rfl) (fun l hl => by subst hl; right; decide)
/-- A cell of the test's own block is set. -/
theorem ST.put {x' : SrcA} {v' : SrcV} {n' j : Nat} {u : Value} (h : ST w f B g n x v) (hc : stC x' v' = (stC x v).set j u) (hp : Parts w f B x' v') (hs : Sizes x' n') (hn : n' ≤ 20000) : ST (w.setCell ⟨g, j, none⟩ u) f B g n' x' v' := by
  have hG : GL f (fun l => l = lab 9 0) w (w.setCell ⟨g, j, none⟩ u) := (GL.refl f _ w).set h.lg j u
  have p := hp.but (f' := f) hG (fun _ _ => rfl)
  have ne : ∀ k i, 1 ≤ k → k ≤ 13 → k ≠ 9 → ¬ lab k i = lab 9 0 := fun k i h1 h2 h3 => by unfold lab; omega
  exact ⟨by rw [hc]; exact h.blk.set j u, h.lg, h.le, ⟨p.cells (ne 6 0 (by decide) (by decide) (by decide)), p.cores (ne 7 0 (by decide) (by decide) (by decide)), p.lenc, fun i h1 h2 => ⟨(p.core i h1 h2).1 (ne 10 i (by decide) (by decide) (by decide)), (p.core i h1 h2).2.1 (ne 11 i (by decide) (by decide) (by decide)), (p.core i h1 h2).2.2 (ne 12 i (by decide) (by decide) (by decide))⟩, p.cond (ne 8 0 (by decide) (by decide) (by decide)), p.tables (ne 1 0 (by decide) (by decide) (by decide)), p.pT (ne 2 0 (by decide) (by decide) (by decide)), p.pC (ne 3 0 (by decide) (by decide) (by decide)), p.pCo (ne 4 0 (by decide) (by decide) (by decide)), p.pI (ne 5 0 (by decide) (by decide) (by decide)), p.leni, fun i h1 h2 => p.ins i h1 h2 (ne 13 i (by decide) (by decide) (by decide))⟩, hs, hn⟩
end
/-- A reader of tokens beside a test. -/
def RdrL (w : World) (f : Nat → Nat) (r n : Nat) (p : Option Addr) (c : Nat) (tk : List Tk) (s : RS) : Prop := RdrAt w r n p c tk s ∧ f r = lab 14 0 ∧ ∀ a, p = some a → f a.block = 0 ∧ a.block < w.heap.size
section
variable {w w' : World} {f f' : Nat → Nat} {r n c : Nat} {p : Option Addr} {tk : List Tk} {s s' : RS}
theorem RdrL.step (h : RdrL w f r n p c tk s) (hr : RdrAt w' r n p c tk s') (hg : w.grownBy w' (some r)) : RdrL w' f r n p c tk s' :=
  ⟨hr, h.2.1, fun a ha => ⟨(h.2.2 a ha).1, Nat.lt_of_lt_of_le (h.2.2 a ha).2 hg.size⟩⟩
theorem RdrL.gl {L : Nat → Prop} (h : RdrL w f r n p c tk s) (hg : GL f L w w') (hf : ∀ i, i < w.heap.size → f' i = f i) (h0 : ¬ L 0) (h14 : ¬ L (lab 14 0)) : RdrL w' f' r n p c tk s := by
  obtain ⟨⟨h1, h2, h3⟩, hr, hp⟩ := h
  refine ⟨⟨h1.gl hg (by rw [hr]; exact h14), ⟨h2.1, fun hn => ?_⟩, h3⟩, by rw [hf r h1.lt]; exact hr, fun a ha => ⟨by rw [hf _ (hp a ha).2]; exact (hp a ha).1, Nat.lt_of_lt_of_le (hp a ha).2 hg.size⟩⟩
  obtain ⟨k, off, hpk, hc⟩ := h2.2 hn
  refine ⟨k, off, hpk, fun j hj => ?_⟩
  rw [← hc j hj]
  exact World.cell?_of_block (hg.block k (hp _ hpk).2 (by rw [(hp _ hpk).1]; exact h0))
theorem RdrL.below (h : RdrL w f r n p c tk s) (hb : Below w.heap.size w w') : RdrL w' f r n p c tk s := h.gl (L := fun _ => False) (GL.ofBelow hb) (fun _ _ => rfl) (fun h => h) (fun h => h)
theorem RdrL.pw (h : RdrL w f r n p c tk s) : ∀ a, p = some a → a.block < w.heap.size := fun a ha => (h.2.2 a ha).2
theorem RdrL.set {g : Nat} (h : RdrL w f r n p c tk s) (hg : f g = lab 9 0) (j : Nat) (u : Value) : RdrL (w.setCell ⟨g, j, none⟩ u) f r n p c tk s :=
  h.gl (L := fun l => l = lab 9 0) ((GL.refl f _ w).set hg j u) (fun _ _ => rfl) (by decide) (by decide)
end
/-- What a function of a line leaves: the test, the reader, and all that belongs to nobody. -/
def SomeST (w : World) (f : Nat → Nat) (B g n r tn : Nat) (p : Option Addr) (c : Nat) (tk : List Tk) (y : SrcA × RS) (e : Ending) (w' : World) : Prop :=
  e = .returned (.tuple #[]) ∧ ∃ f' v', ST w' f' B g n y.1 v' ∧ RdrL w' f' r tn p c tk y.2 ∧ (∀ i, i < w.heap.size → f' i = f i) ∧ GL f (fun l => l ≠ 0) w w'
end Go.Proofs.YtcaifejfkpmeeaaGreat
namespace Go.Proofs.YtcaifejfkpmeeaaGreat
open Go.RowKit
set_option linter.unusedVariables false
set_option linter.unusedSimpArgs false

set_option maxRecDepth 100000 in
set_option maxHeartbeats 1600000 in
theorem fault_any {r n : Nat} {p : Option Addr} {c : Nat} {tk : List Tk} {s : RS} (w : World) (x y : Int) (h : RdrAt w r n p c tk s) :
    Calls Tryz.prog 48 #[.pointer (some ⟨r, 0, none⟩), .agg #[.int .i64 x, .int .i64 y]] w fun e w' => e = .returned (.tuple #[]) ∧ RdrAt w' r n p c tk (faultR s x y) ∧ w.grownBy w' (some r) := by
  have HB := Lib.hid (show Below w.heap.size w (w.alloc (.cells #[.int .i64 x, .int .i64 y] 41)) from below_alloc (Below.refl _ _) _)
  have hr := h.below HB.out
  have HR := Lib.hid hr
  have hrl := h.lt
  have c2 := h.blk.cell 2
  have c3 := h.blk.cell 3
  have f2 := h.blk.free 2
  have f3 := h.blk.free 3
  simp only [List.getElem?_cons_zero, List.getElem?_cons_succ] at c2 c3
  have HRS := Lib.hid (show Blk (((w.setCell ⟨r, 2, none⟩ (.int .i64 x)).setCell ⟨r, 3, none⟩ (.int .i64 y)).alloc (.cells #[.int .i64 x, .int .i64 y] 41)) 91 r [.slice p n c, .int .i64 (s.k : Nat), .int .i64 x, .int .i64 y] from by simpa using ((h.blk.set 2 (.int .i64 x)).set 3 (.int .i64 y)).alloc _)
  have HGS := Lib.hid (grown_thenR (grown_thenR (grown_setR w r 2 (.int .i64 x)) (grown_setR _ r 3 (.int .i64 y))) (World.grownBy_alloc _ (.cells #[.int .i64 x, .int .i64 y] 41) (some r)))
  have H0 := Lib.hid h
  have HNX := Lib.hid (show (s.code = 0 → faultR s x y = { s with code := x, at_ := y }) ∧ (¬ s.code = 0 → faultR s x y = s) from ⟨fun e => by unfold faultR; rw [if_pos e], fun e => by unfold faultR; rw [if_neg e]⟩)
  clear h hr
  by_cases hk : s.code = 0
  · have HX := Lib.hid (HNX.out.1 hk)
    rw [hk] at c2
    clear hk
    go_enter Tryz.func48, Tryz.ntmps48
    go_wp2_with fail
    go_end0
    exact ⟨rfl, by rw [HX.out]; exact H0.out.kept HGS.out HRS.out H0.out.2.2.2.2.1, HGS.out⟩
  · have HX := Lib.hid (HNX.out.2 hk)
    have hkb : (s.code == 0) = false := by simpa using hk
    go_enter Tryz.func48, Tryz.ntmps48
    go_wp2_with fail
    go_end0
    exact ⟨rfl, by rw [HX.out]; exact HR.out, grown_below HB.out⟩
theorem ne_toList {t : ByteArray} {l : List UInt8} (h : ¬ t = ⟨l.toArray⟩) : (t.toList == l) = false := by
  rw [beq_eq_false_iff_ne]
  intro e
  apply h
  rw [toList_ba] at e
  exact ByteArray.ext (by simp [← e])
set_option maxHeartbeats 1600000 in
theorem key_any (t : ByteArray) (w : World) : Calls Tryz.prog 21 #[.string t] w fun e w' => e = .returned (.bool (keyB t)) ∧ w = w' := by
  by_cases h0 : t = wTest
  · subst h0
    go_enter Tryz.func21, Tryz.ntmps21
    unfold wTest
    go_wp2
    go_ret
    exact ⟨rfl, rfl⟩
  have m0 : (t.toList == ([116, 101, 115, 116] : List UInt8)) = false := ne_toList h0
  by_cases h1 : t = wTable
  · subst h1
    go_enter Tryz.func21, Tryz.ntmps21
    unfold wTable
    go_wp2
    go_ret
    exact ⟨rfl, rfl⟩
  have m1 : (t.toList == ([116, 97, 98, 108, 101] : List UInt8)) = false := ne_toList h1
  by_cases h2 : t = wCell
  · subst h2
    go_enter Tryz.func21, Tryz.ntmps21
    unfold wCell
    go_wp2
    go_ret
    exact ⟨rfl, rfl⟩
  have m2 : (t.toList == ([99, 101, 108, 108] : List UInt8)) = false := ne_toList h2
  by_cases h3 : t = wCore
  · subst h3
    go_enter Tryz.func21, Tryz.ntmps21
    unfold wCore
    go_wp2
    go_ret
    exact ⟨rfl, rfl⟩
  have m3 : (t.toList == ([99, 111, 114, 101] : List UInt8)) = false := ne_toList h3
  by_cases h4 : t = wReg
  · subst h4
    go_enter Tryz.func21, Tryz.ntmps21
    unfold wReg
    go_wp2
    go_ret
    exact ⟨rfl, rfl⟩
  have m4 : (t.toList == ([114, 101, 103] : List UInt8)) = false := ne_toList h4
  by_cases h5 : t = wHandler
  · subst h5
    go_enter Tryz.func21, Tryz.ntmps21
    unfold wHandler
    go_wp2
    go_ret
    exact ⟨rfl, rfl⟩
  have m5 : (t.toList == ([104, 97, 110, 100, 108, 101, 114] : List UInt8)) = false := ne_toList h5
  by_cases h6 : t = wExists
  · subst h6
    go_enter Tryz.func21, Tryz.ntmps21
    unfold wExists
    go_wp2
    go_ret
    exact ⟨rfl, rfl⟩
  have m6 : (t.toList == ([101, 120, 105, 115, 116, 115] : List UInt8)) = false := ne_toList h6
  by_cases h7 : t = wForall
  · subst h7
    go_enter Tryz.func21, Tryz.ntmps21
    unfold wForall
    go_wp2
    go_ret
    exact ⟨rfl, rfl⟩
  have m7 : (t.toList == ([102, 111, 114, 97, 108, 108] : List UInt8)) = false := ne_toList h7
  have H := Lib.hid (show keyB t = false by unfold keyB; simp [h0, h1, h2, h3, h4, h5, h6, h7])
  clear h0 h1 h2 h3 h4 h5 h6 h7
  go_enter Tryz.func21, Tryz.ntmps21
  go_wp2
  go_ret
  exact ⟨by rw [H.out]; rfl, rfl⟩
end Go.Proofs.YtcaifejfkpmeeaaGreat
namespace Go.Proofs.YtcaifejfkpmeeaaGreat
open Go.RowKit

theorem mask_any (n : Int) (w : World) (h0 : 0 ≤ n) :
    Calls Tryz.prog 107 #[.int .i64 n] w fun e w' => e = .returned (.int .u64 (maskN n)) ∧ ∃ m, w' = w.drewN m := by
  by_cases h : 64 ≤ n
  · have H := Lib.hid (maskN_big n h)
    go_enter Tryz.func107, Tryz.ntmps107
    go_wp2
    go_ret
    exact ⟨ret_int (by rw [H.out]; rfl), 0, rfl⟩
  · have H := Lib.hid (mask_walk n (by omega))
    go_enter Tryz.func107, Tryz.ntmps107
    go_wp2
    go_ret
    exact ⟨ret_int H.out, 0, rfl⟩

theorem aligned_any (x n : Int) (w : World) (hx : 0 ≤ x ∧ x < 18446744073709551616) :
    Calls Tryz.prog 97 #[.int .u64 x, .int .i64 n] w fun e w' => e = .returned (.bool (alignedB x n)) ∧ ∃ n, w' = w.drewN n := by
  by_cases hn : n ≤ 0
  · have H := Lib.hid (show alignedB x n = true by unfold alignedB; rw [show n.toNat = 0 by omega]; simp [Nat.mod_one])
    go_enter Tryz.func97, Tryz.ntmps97
    go_wp2
    go_ret
    exact ⟨ret_bool (by rw [H.out]), 0, rfl⟩
  · have H := Lib.hid (aligned_walk x n hx)
    go_enter Tryz.func97, Tryz.ntmps97
    go_wp2_with (go_at_call 107; refine (mask_any _ _ (by omega)).mono ?_; rintro e w' ⟨rfl, m, rfl⟩)
    go_ret
    exact ⟨ret_bool H.out, _, rfl⟩

end Go.Proofs.YtcaifejfkpmeeaaGreat
