/- same: rows of tokens alike. -/
import Derived.Test.YtpfeeoogjeobdaaLexTok
import Derived.Test.YtpfeeoogjeobdaaAppS
import Derived.Test.YtpfeeoogjeobdaaRds
namespace Go.Proofs.Ytpfeeoogjeobdaa
open Go.RowKit
set_option linter.unusedVariables false

theorem Rds.of_own {w : World} {base : Nat} {e : TypeId} {size : Nat} {v : Value} {n : Nat} {xs : List Value} (h : w.ownsRow base e size v n xs) : ∃ p c, v = .slice p n c ∧ Rds w size p n xs ∧ n ≤ c := by
  have h' := h
  obtain ⟨hl, ⟨rfl, rfl⟩ | ⟨g, cap, cur, rfl, hb, hg, hnc, hc, _⟩⟩ := h
  · exact ⟨_, _, rfl, ⟨hl, fun h => absurd h (by omega)⟩, Nat.le_refl _⟩
  · exact ⟨_, _, rfl, ⟨hl, fun _ => ⟨g, 0, rfl, fun j hj => by rw [Nat.zero_add]; exact h'.cellAt j (by omega)⟩⟩, hnc⟩
theorem tokCells_get (s : ByteArray) (at_ : Nat) : ∀ (l : List (Nat × Nat × Nat)) (i : Nat) (h : i < l.length), (tokCells s at_ l)[i * 3]? = some (.int .i64 (l[i].1 : Nat)) ∧ (tokCells s at_ l)[i * 3 + 1]? = some (.string (s.extract l[i].2.1 l[i].2.2)) ∧ (tokCells s at_ l)[i * 3 + 2]? = some (.int .i64 ((at_ : Int) + (l[i].2.1 : Nat)))
  | r :: l, 0, _ => by simp [tokCells]
  | r :: l, i + 1, h => by
    have := tokCells_get s at_ l i (by simpa using h)
    have e : tokCells s at_ (r :: l) = [.int .i64 (r.1 : Nat), .string (s.extract r.2.1 r.2.2), .int .i64 ((at_ : Int) + (r.2.1 : Nat))] ++ tokCells s at_ l := rfl
    rw [e, List.getElem?_append_right (by simp; omega), List.getElem?_append_right (by simp; omega), List.getElem?_append_right (by simp; omega)]
    simp only [List.length_cons, List.length_nil, List.getElem_cons_succ]
    rw [show (i + 1) * 3 - (0 + 1 + 1 + 1) = i * 3 by omega, show (i + 1) * 3 + 1 - (0 + 1 + 1 + 1) = i * 3 + 1 by omega, show (i + 1) * 3 + 2 - (0 + 1 + 1 + 1) = i * 3 + 2 by omega]
    exact this
/-- Where a row of tokens has the i-th. -/
theorem tok_at {w : World} {p : Option Addr} {s : ByteArray} {at_ : Nat} {l : List (Nat × Nat × Nat)} (h : Rds w 3 p l.length (tokCells s at_ l)) {i : Nat} (hi : i < l.length) :
    ∃ g off, p = some ⟨g, off, none⟩ ∧ w.cell? ⟨g, off + i * 3, none⟩ = some (.int .i64 (l[i].1 : Nat)) ∧ w.cell? ⟨g, off + i * 3 + 1, none⟩ = some (.string (s.extract l[i].2.1 l[i].2.2)) ∧ w.cell? ⟨g, off + i * 3 + 2, none⟩ = some (.int .i64 ((at_ : Int) + (l[i].2.1 : Nat))) := by
  obtain ⟨g, off, hp, hc⟩ := h.2 (by omega)
  obtain ⟨h0, h1, h2⟩ := tokCells_get s at_ l i hi
  exact ⟨g, off, hp, (hc _ (by omega)).trans h0, (hc (i * 3 + 1) (by omega)).trans h1, (hc (i * 3 + 2) (by omega)).trans h2⟩

set_option maxHeartbeats 1600000 in
theorem same_tokens (s : ByteArray) (at_ : Nat) (l : List (Nat × Nat × Nat)) (p q : Option Addr) (c d : Nat) (w : World) (hl : l.length ≤ 4194304) (hp : Rds w 3 p l.length (tokCells s at_ l)) (hq : Rds w 3 q l.length (tokCells s at_ l)) (hc : l.length ≤ c) (hd : l.length ≤ d) :
    Calls Try.prog 10 #[.slice p l.length c, .slice q l.length d] w fun e w' => e = .returned (.bool true) ∧ ∃ m, w' = w.drewN m := by
  have HP := Lib.hid hp
  have HQ := Lib.hid hq
  clear hp hq
  go_enter Try.func10, Try.ntmps10
  go_wp2_with fail
  go_loopw [5] (fun i wr => ∃ k m : Nat, k ≤ l.length ∧ i = .int .i64 k ∧ wr = w.drewN m) (fun i _ => l.length - (intOf i).toNat)
  case atStart => exact ⟨0, 0, by omega, rfl, rfl⟩
  case round =>
    obtain ⟨k, m, hk, rfl, rfl⟩ := hrel
    by_cases hlt : k < l.length
    · obtain ⟨g, off, rfl, p0, p1, p2⟩ := tok_at HP.out hlt
      obtain ⟨g2, off2, rfl, q0, q1, q2⟩ := tok_at HQ.out hlt
      have hk0 : (0 : Int) ≤ k := by omega
      have hki : (k : Int) < l.length := by omega
      generalize s.extract l[k].2.1 l[k].2.2 = tx at *
      generalize ((at_ : Int) + (l[k].2.1 : Nat)) = ta at *
      generalize ((l[k].1 : Nat) : Int) = tk at *
      go_wp2_with fail
      go_quiet (fail)
      go_wp2_with fail
      go_roundw
      case rel => exact ⟨k + 1, _, by omega, by go_num, rfl⟩
      case measure => simp [intOf]; omega
    · obtain rfl : k = l.length := by omega
      go_wp2_with fail
      go_ret
      exact ⟨rfl, m, rfl⟩
end Go.Proofs.Ytpfeeoogjeobdaa
