/- Contracts whose new blocks are named by 'there are'; facts for the laws. -/
import Derived.Test.YtmiajpoclgdhbaaDoorRelMerge
import Derived.Test.YtmiajpoclgdhbaaDoorRelTU
import Derived.Test.YtmiajpoclgdhbaaDoorRelTThen
namespace Go.Proofs.YtmiajpoclgdhbaaDoor
open Go.RowKit
set_option linter.unusedVariables false

theorem same_self (n : Nat) (ws : List Nat) : sameW n n ws ws = true := by unfold sameW; simp
theorem rel_same {w w2 : World} {h g n h2 g2 : Nat} {ws ws2 : List Nat} {T : Nat → Nat → Bool} (r : RelAt w h g n ws) (r2 : RelAt w2 h2 g2 n ws2) (hn : n ≤ 128) (s1 : Says n ws T) (s2 : Says n ws2 T) : sameW n n ws ws2 = true := by
  rw [says_eq hn r.len r2.len r.2.2.2.wlt r2.2.2.2.wlt s1 s2]; exact same_self n ws2
theorem says_congr {n : Nat} {ws : List Nat} {T U : Nat → Nat → Bool} (h : Says n ws T) (e : ∀ a b, a < n → b < n → T a b = U a b) : Says n ws U :=
  ⟨fun a ha b hb => (h.1 a ha b hb).trans (e a b ha hb), h.2⟩
theorem okAll {N : Nat} {l : List (Int × Int)} (hok : bothOk N l = true) : l.all (okP N) = true := by
  unfold bothOk at hok
  rw [Bool.and_eq_true] at hok
  simpa using hok.2
theorem both_says {N : Nat} {l : List (Int × Int)} (hok : bothOk N l = true) (hN : N ≤ 128) : Says N (ofW N l) (inL l) := says_of hN (okAll hok)
theorem then_ex (h g n h2 g2 : Nat) (ws ws2 : List Nat) (w : World) (r : RelAt w h g n ws) (r2 : RelAt w h2 g2 n ws2) (hn : n ≤ 128) (hwf : WF n ws) (hT : TabW w) :
    Calls Tryd.prog 24 #[.pointer (some ⟨h, 0, none⟩), .pointer (some ⟨h2, 0, none⟩)] w fun e w' => ∃ h' g', e = .returned (.tuple #[.pointer (some ⟨h', 0, none⟩), .int .i64 0]) ∧ RelAt w' h' g' n (thenTo ws ws2 n n) ∧ Below w.heap.size w w' :=
  (relthen_any h g n h2 g2 ws ws2 w r r2 hn hwf hT).mono fun _ _ ⟨e, r, b⟩ => ⟨_, _, e, r, b⟩
theorem inv_ex (h g n : Nat) (ws : List Nat) (w : World) (r : RelAt w h g n ws) (hn : n ≤ 128) (hwf : WF n ws) (hT : TabW w) :
    Calls Tryd.prog 42 #[.pointer (some ⟨h, 0, none⟩)] w fun e w' => ∃ h' g', e = .returned (.pointer (some ⟨h', 0, none⟩)) ∧ RelAt w' h' g' n (invW n ws) ∧ Below w.heap.size w w' :=
  (relinv_any h g n ws w r hn hwf hT).mono fun _ _ ⟨e, r, b⟩ => ⟨_, _, e, r, b⟩
theorem new_ex (n : Nat) (w : World) (hn : n ≤ 128) :
    Calls Tryd.prog 28 #[.int .i64 n] w fun e w' => ∃ h' g', e = .returned (.tuple #[.pointer (some ⟨h', 0, none⟩), .int .i64 0]) ∧ RelAt w' h' g' n (zeros n) ∧ Below w.heap.size w w' :=
  (relnew_ok n w hn).mono fun _ _ ⟨e, r, b⟩ => ⟨_, _, e, r, b⟩
theorem union_ex (h g n h2 g2 : Nat) (ws ws2 : List Nat) (w : World) (r : RelAt w h g n ws) (r2 : RelAt w h2 g2 n ws2) (hn : n ≤ 128) :
    Calls Tryd.prog 23 #[.pointer (some ⟨h, 0, none⟩), .pointer (some ⟨h2, 0, none⟩)] w fun e w' => ∃ h' g', e = .returned (.tuple #[.pointer (some ⟨h', 0, none⟩), .int .i64 0]) ∧ RelAt w' h' g' n (unionW n ws ws2) ∧ Below w.heap.size w w' :=
  (relunion_any h g n h2 g2 ws ws2 w r r2 hn).mono fun _ _ ⟨_, _, _, _, e, r, b⟩ => ⟨_, _, e, r, b⟩
theorem inter_ex (h g n h2 g2 : Nat) (ws ws2 : List Nat) (w : World) (r : RelAt w h g n ws) (r2 : RelAt w h2 g2 n ws2) (hn : n ≤ 128) :
    Calls Tryd.prog 44 #[.pointer (some ⟨h, 0, none⟩), .pointer (some ⟨h2, 0, none⟩)] w fun e w' => ∃ h' g', e = .returned (.tuple #[.pointer (some ⟨h', 0, none⟩), .int .i64 0]) ∧ RelAt w' h' g' n (interW n ws ws2) ∧ Below w.heap.size w w' :=
  (relinter_any h g n h2 g2 ws ws2 w r r2 hn).mono fun _ _ ⟨_, _, _, _, e, r, b⟩ => ⟨_, _, e, r, b⟩
theorem minus_ex (h g n h2 g2 : Nat) (ws ws2 : List Nat) (w : World) (r : RelAt w h g n ws) (r2 : RelAt w h2 g2 n ws2) (hn : n ≤ 128) :
    Calls Tryd.prog 45 #[.pointer (some ⟨h, 0, none⟩), .pointer (some ⟨h2, 0, none⟩)] w fun e w' => ∃ h' g', e = .returned (.tuple #[.pointer (some ⟨h', 0, none⟩), .int .i64 0]) ∧ RelAt w' h' g' n (minusW n ws ws2) ∧ Below w.heap.size w w' :=
  (relminus_any h g n h2 g2 ws ws2 w r r2 hn).mono fun _ _ ⟨_, _, _, _, e, r, b⟩ => ⟨_, _, e, r, b⟩
theorem clos_ex (h g n : Nat) (ws : List Nat) (w : World) (r : RelAt w h g n ws) (hn : n ≤ 128) :
    Calls Tryd.prog 36 #[.pointer (some ⟨h, 0, none⟩)] w fun e w' => ∃ h' g', e = .returned (.pointer (some ⟨h', 0, none⟩)) ∧ RelAt w' h' g' n (closW n ws) ∧ Below w.heap.size w w' :=
  (relclosure_any h g n ws w r hn).mono fun _ _ ⟨_, _, _, _, e, r, b⟩ => ⟨_, _, e, r, b⟩
theorem tinv_ex (t n : Nat) (T : Nat → Nat → Bool) (w : World) (h : TabAt w t n T) (hn : n ≤ 1000) :
    Calls Tryd.prog 43 #[.slice (some ⟨t, 0, none⟩) n n] w fun e w' => ∃ t', e = .returned (.slice (some ⟨t', 0, none⟩) n n) ∧ TabAt w' t' n (fun a b => T b a) ∧ Below w.heap.size w w' :=
  (tinv_any t n T w h hn).mono fun _ _ ⟨e, r, b⟩ => ⟨_, e, r, b⟩
theorem tthen_ex (t u n : Nat) (T U : Nat → Nat → Bool) (w : World) (h : TabAt w t n T) (h2 : TabAt w u n U) (hn : n ≤ 1000) :
    Calls Tryd.prog 41 #[.slice (some ⟨t, 0, none⟩) n n, .slice (some ⟨u, 0, none⟩) n n] w fun e w' => ∃ t', e = .returned (.slice (some ⟨t', 0, none⟩) n n) ∧ TabAt w' t' n (thenT n T U) ∧ Below w.heap.size w w' :=
  (tthen_any t u n T U w h h2 hn).mono fun _ _ ⟨e, r, b⟩ => ⟨_, e, r, b⟩
theorem tunion_ex (t u n : Nat) (T U : Nat → Nat → Bool) (w : World) (h : TabAt w t n T) (h2 : TabAt w u n U) (hn : n ≤ 1000) :
    Calls Tryd.prog 46 #[.slice (some ⟨t, 0, none⟩) n n, .slice (some ⟨u, 0, none⟩) n n] w fun e w' => ∃ t', e = .returned (.slice (some ⟨t', 0, none⟩) n n) ∧ TabAt w' t' n (tUnion T U) ∧ Below w.heap.size w w' :=
  (tunion_any t u n T U w h h2 hn).mono fun _ _ ⟨e, r, b⟩ => ⟨_, e, r, b⟩
theorem tminus_ex (t u n : Nat) (T U : Nat → Nat → Bool) (w : World) (h : TabAt w t n T) (h2 : TabAt w u n U) (hn : n ≤ 1000) :
    Calls Tryd.prog 47 #[.slice (some ⟨t, 0, none⟩) n n, .slice (some ⟨u, 0, none⟩) n n] w fun e w' => ∃ t', e = .returned (.slice (some ⟨t', 0, none⟩) n n) ∧ TabAt w' t' n (tMinus T U) ∧ Below w.heap.size w w' :=
  (tminus_any t u n T U w h h2 hn).mono fun _ _ ⟨e, r, b⟩ => ⟨_, e, r, b⟩
theorem tempty_ex (n : Nat) (w : World) (hn : n ≤ 1000) :
    Calls Tryd.prog 39 #[.int .i64 n] w fun e w' => ∃ t', e = .returned (.slice (some ⟨t', 0, none⟩) n n) ∧ TabAt w' t' n (fun _ _ => false) ∧ Below w.heap.size w w' :=
  (empty_any n w hn).mono fun _ _ ⟨e, r, b, _⟩ => ⟨_, e, r, b⟩
end Go.Proofs.YtmiajpoclgdhbaaDoor
