/- The lines of a text: how many, where. -/
import Derived.Test.YtcaifejfkpmeeaaGreatMgal
import Derived.Test.YtcaifejfkpmeeaaGreatMgay
namespace Go.Proofs.YtcaifejfkpmeeaaGreat
open Go.RowKit
set_option linter.unusedVariables false
set_option linter.unusedSimpArgs false

/-- The sizes, and a list of places for each core. -/
def Inv (x : SrcA) (n : Nat) : Prop := Sizes x n ∧ x.pI.length = x.cores.length
theorem inv0 : Inv src0 0 := ⟨⟨by simp [src0], by simp [src0], by simp [src0], by simp [src0], by simp [src0], by simp [src0], by simp [src0], by simp [src0], by simp [src0]⟩, rfl⟩
theorem Inv.up {x : SrcA} {n : Nat} (h : Inv x n) : Inv x (n + 1) := ⟨h.1.mono (Nat.le_succ n), h.2⟩
theorem inv_of {x y : SrcA} {n : Nat} (h : Inv x n) (hc : y.cells.length ≤ n + 1) (ht : y.tables.length ≤ n + 1) (h1 : y.pT.length ≤ n + 1) (h2 : y.pC.length ≤ n + 1) (e1 : y.cores = x.cores) (e2 : y.pCo = x.pCo) (e3 : y.pI = x.pI) : Inv y (n + 1) := by
  obtain ⟨⟨a, b, c, d, e, f, g, i, k⟩, hp⟩ := h
  refine ⟨⟨hc, by rw [e1]; omega, ht, h1, h2, by rw [e2]; omega, by rw [e3]; omega, by rw [e3]; intro q hq; have := i q hq; omega, by rw [e1]; intro q hq; have := k q hq; omega⟩, by rw [e1, e3]; exact hp⟩
theorem inv_core {x : SrcA} {n : Nat} (h : Inv x n) (c : CoreA) (hc : c.code.length ≤ n + 1 ∧ c.hand.length ≤ n + 1 ∧ c.regs.length = 31) (at_ : Int) (a : Nat) : Inv { x with cores := x.cores ++ [c], pCo := x.pCo ++ [at_], pI := x.pI ++ [[]], after := a } (n + 1) := by
  obtain ⟨⟨z1, z2, z3, z4, z5, z6, z7, i, k⟩, hp⟩ := h
  refine ⟨⟨by show x.cells.length ≤ _; omega, by simp; omega, by show x.tables.length ≤ _; omega, by show x.pT.length ≤ _; omega, by show x.pC.length ≤ _; omega, by simp; omega, by simp; omega, ?_, ?_⟩, by simp [hp]⟩
  · intro q hq
    rcases List.mem_append.1 hq with hq | hq
    · have := i q hq; omega
    · have e : q = [] := by simpa using hq
      subst e; simp
  · intro q hq
    rcases List.mem_append.1 hq with hq | hq
    · have := k q hq; omega
    · have e : q = c := by simpa using hq
      subst e; exact hc
theorem lastF_eq {x : SrcA} {l : List CoreA} {c : CoreA} (hx : x.cores = l ++ [c]) (f : CoreA → CoreA) : lastF x f = { x with cores := l ++ [f c] } := by
  unfold lastF; simp [hx]
theorem inv_last {x : SrcA} {n : Nat} (h : Inv x n) {l : List CoreA} {c c' : CoreA} (hx : x.cores = l ++ [c]) (hc : c'.code.length ≤ n + 1 ∧ c'.hand.length ≤ n + 1 ∧ c'.regs.length = 31) : Inv { x with cores := l ++ [c'] } (n + 1) := by
  obtain ⟨⟨z1, z2, z3, z4, z5, z6, z7, i, k⟩, hp⟩ := h
  rw [hx] at z2 hp k
  refine ⟨⟨by show x.cells.length ≤ _; omega, by simpa using Nat.le_succ_of_le z2, by show x.tables.length ≤ _; omega, by show x.pT.length ≤ _; omega, by show x.pC.length ≤ _; omega, by show x.pCo.length ≤ _; omega, by show x.pI.length ≤ _; omega, ?_, ?_⟩, by simpa using hp⟩
  · intro q hq; have := i q hq; omega
  · intro q hq
    rcases List.mem_append.1 hq with hq | hq
    · have := k q (List.mem_append_left _ hq); omega
    · have e : q = c' := by simpa using hq
      subst e; exact hc
theorem inv_pI {x : SrcA} {n : Nat} (h : Inv x n) (h0 : ∀ q ∈ x.pI, q.length ≤ n - 1) (hn : 0 < n) (at_ : Int) : Inv { x with pI := lastP x.pI at_ } n := by
  obtain ⟨⟨a, b, c, d, e, f, g, i, k⟩, hp⟩ := h
  have hl : (lastP x.pI at_).length = x.pI.length ∧ ∀ q ∈ lastP x.pI at_, q.length ≤ n := by
    unfold lastP
    rcases hq : x.pI.getLast? with _ | q
    · exact ⟨rfl, i⟩
    · obtain ⟨l, hl⟩ := List.getLast?_eq_some_iff.1 hq
      have h1 := h0 q (by rw [hl]; simp)
      simp only [hl, List.dropLast_concat]
      refine ⟨by simp, fun r hr => ?_⟩
      rcases List.mem_append.1 hr with hr | hr
      · exact i r (by rw [hl]; exact List.mem_append_left _ hr)
      · have e : r = q ++ [at_] := by simpa using hr
        subst e; simp; omega
  exact ⟨⟨a, b, c, d, e, f, by rw [show ({ x with pI := lastP x.pI at_ } : SrcA).pI.length = x.pI.length from hl.1]; exact g, hl.2, k⟩, by show (lastP x.pI at_).length = _; rw [hl.1]; exact hp⟩
theorem insR_inv {x : SrcA} {n : Nat} (h : Inv x n) (t : ByteArray) (at_ : Int) : Inv (insR x t at_).1 (n + 1) := by
  unfold insR
  rcases hc : x.cores.getLast? with _ | c
  · exact h.up
  · obtain ⟨l, hx⟩ := List.getLast?_eq_some_iff.1 hc
    dsimp only
    split
    · rw [lastF_eq hx]
      have hk := h.1.code c (by rw [hx]; simp)
      have hI : Inv { x with cores := l ++ [if x.after = 2 then { c with code := c.code ++ [(parseA t.data.toList).1] } else { c with hand := c.hand ++ [(parseA t.data.toList).1] }] } (n + 1) := by
        refine inv_last h hx ?_
        split
        · exact ⟨by simp; omega, by show c.hand.length ≤ _; omega, hk.2.2⟩
        · exact ⟨by show c.code.length ≤ _; omega, by simp; omega, hk.2.2⟩
      exact inv_pI hI (fun q hq => by have := h.1.ins q hq; omega) (by omega) at_
    · exact h.up
theorem regR_inv {x : SrcA} {n : Nat} (h : Inv x n) (tk : List Tk) (s : RS) : Inv (regR' tk x s).1 (n + 1) := by
  unfold regR'
  split
  · dsimp only
    rcases hc : x.cores.getLast? with _ | c
    · unfold lastF; rw [hc]; exact h.up
    · obtain ⟨l, hx⟩ := List.getLast?_eq_some_iff.1 hc
      rw [lastF_eq hx]
      have hk := h.1.code c (by rw [hx]; simp)
      exact inv_last h hx ⟨by show c.code.length ≤ _; omega, by show c.hand.length ≤ _; omega, by simp [hk.2.2]⟩
  · exact h.up
theorem switchR_inv {x : SrcA} {n : Nat} (h : Inv x n) (tk : List Tk) (s : RS) (w : ByteArray) (at_ : Int) : Inv (switchR tk x s w at_).1 (n + 1) := by
  have hs := h.1
  unfold switchR
  split
  · exact inv_of h (Nat.le_succ_of_le hs.cells) (Nat.le_succ_of_le hs.tables) (Nat.le_succ_of_le hs.pT) (Nat.le_succ_of_le hs.pC) rfl rfl rfl
  split
  · unfold tableR; split
    · have h1 := hs.tables; have h2 := hs.pT
      exact inv_of h (Nat.le_succ_of_le hs.cells) (by simp; omega) (by simp; omega) (Nat.le_succ_of_le hs.pC) rfl rfl rfl
    · exact h.up
  split
  · unfold cellR; split
    · have h1 := hs.cells; have h2 := hs.pC
      exact inv_of h (by simp; omega) (Nat.le_succ_of_le hs.tables) (Nat.le_succ_of_le hs.pT) (by simp; omega) rfl rfl rfl
    · exact h.up
  split
  · exact inv_core h _ ⟨Nat.zero_le _, Nat.zero_le _, by simp⟩ at_ 2
  split
  · exact regR_inv h tk s
  split
  · exact inv_of h (Nat.le_succ_of_le hs.cells) (Nat.le_succ_of_le hs.tables) (Nat.le_succ_of_le hs.pT) (Nat.le_succ_of_le hs.pC) rfl rfl rfl
  · exact inv_of h (Nat.le_succ_of_le hs.cells) (Nat.le_succ_of_le hs.tables) (Nat.le_succ_of_le hs.pT) (Nat.le_succ_of_le hs.pC) rfl rfl rfl
/-- A line keeps the sizes. -/
theorem rowA_inv {x : SrcA} {n : Nat} (h : Inv x n) (t : ByteArray) (at_ : Nat) : Inv (rowA x t at_).1 (n + 1) := by
  unfold rowA
  dsimp only
  split
  · exact h.up
  split
  · exact insR_inv h t at_
  split
  · exact h.up
  · exact switchR_inv h _ _ _ _
theorem ST.resize {w : World} {f : Nat → Nat} {B g n m : Nat} {x : SrcA} {v : SrcV} (h : ST w f B g n x v) (hs : Sizes x m) (hm : m ≤ 20000) : ST w f B g m x v := ⟨h.blk, h.lg, h.le, h.parts, hs, hm⟩
end Go.Proofs.YtcaifejfkpmeeaaGreat
namespace Go.Proofs.YtcaifejfkpmeeaaGreat
open Go.RowKit
set_option linter.unusedVariables false
set_option linter.unusedSimpArgs false

theorem rowsZ_len : ∀ (n : Nat) (s : ByteArray) (f : Nat) (acc : List (Nat × Nat)), s.size + 1 - f = n → (rowsF s f acc).length ≤ acc.length + (s.size + 1 - f) := by
  intro n
  induction n using Nat.strongRecOn with
  | _ n ih =>
    intro s f acc hn
    by_cases h : f ≤ s.size
    · rw [rowsF_step h]
      have hg := (scan_ge (nlB s) s.size _ f rfl).1
      have := ih (s.size + 1 - (scan (nlB s) s.size f + 1)) (by omega) s (scan (nlB s) s.size f + 1) (if headF s f (scan (nlB s) s.size f) < tailF s f (scan (nlB s) s.size f) then acc ++ [(headF s f (scan (nlB s) s.size f), tailF s f (scan (nlB s) s.size f))] else acc) rfl
      split at this
      · rename_i h0; rw [if_pos h0]; simp at this; omega
      · rename_i h0; rw [if_neg h0]; omega
    · rw [rowsF_end h]; omega
def RowsZ (s : ByteArray) (l : List (Nat × Nat)) (f : Nat) : Prop := l.Pairwise (fun x y => x.2 ≤ y.1) ∧ ∀ x ∈ l, x.1 < x.2 ∧ x.2 ≤ s.size ∧ x.2 ≤ f
theorem rows_z : ∀ (n : Nat) (s : ByteArray) (f : Nat) (acc : List (Nat × Nat)), s.size + 1 - f = n → RowsZ s acc f → RowsZ s (rowsF s f acc) (s.size + 1 + f) := by
  intro n
  induction n using Nat.strongRecOn with
  | _ n ih =>
    intro s f acc hn hok
    by_cases h : f ≤ s.size
    · rw [rowsF_step h]
      have hg := (scan_ge (nlB s) s.size _ f rfl).1
      have hg2 := (scan_ge (nlB s) s.size _ f rfl).2 h
      have h1 := headF_bd s f _ hg
      have h2 := tailF_bd s f _ hg
      generalize scan (nlB s) s.size f = k at *
      suffices hh : RowsZ s (if headF s f k < tailF s f k then acc ++ [(headF s f k, tailF s f k)] else acc) (k + 1) by
        have := ih (s.size + 1 - (k + 1)) (by omega) s (k + 1) _ rfl hh
        exact ⟨this.1, fun x hx => ⟨(this.2 x hx).1, (this.2 x hx).2.1, by have := (this.2 x hx).2.1; omega⟩⟩
      · split
        · rename_i hlt
          refine ⟨List.pairwise_append.2 ⟨hok.1, List.pairwise_singleton _ _, fun x hx y hy => ?_⟩, fun x hx => ?_⟩
          · rw [List.mem_singleton] at hy; subst hy
            have := (hok.2 x hx).2.2; omega
          · rcases List.mem_append.1 hx with hx | hx
            · have := hok.2 x hx; omega
            · rw [List.mem_singleton] at hx; subst hx; omega
        · exact ⟨hok.1, fun x hx => by have := hok.2 x hx; omega⟩
    · rw [rowsF_end h]
      exact ⟨hok.1, fun x hx => by have := hok.2 x hx; omega⟩
theorem rows_in (s : ByteArray) : ∀ r ∈ rowsF s 0 [], r.1 < r.2 ∧ r.2 ≤ s.size := fun r hr => by
  have h := (rows_z _ s 0 [] rfl ⟨List.Pairwise.nil, fun _ h => absurd h (by simp)⟩).2 r hr
  exact ⟨h.1, h.2.1⟩
theorem rows_get (s : ByteArray) : ∀ (l : List (Nat × Nat)) (k : Nat) (h : k < l.length), (rowCells s l)[k * 2]? = some (.string (s.extract l[k].1 l[k].2)) ∧ (rowCells s l)[k * 2 + 1]? = some (.int .i64 (l[k].1 : Nat))
  | r :: l, 0, _ => ⟨rfl, rfl⟩
  | r :: l, k + 1, h => by
    have q := rows_get s l k (by simpa using h)
    have e : rowCells s (r :: l) = [.string (s.extract r.1 r.2), .int .i64 (r.1 : Nat)] ++ rowCells s l := rfl
    rw [e, show (k + 1) * 2 = k * 2 + 2 by omega, show k * 2 + 2 + 1 = (k * 2 + 1) + 2 by omega]
    exact q
end Go.Proofs.YtcaifejfkpmeeaaGreat
