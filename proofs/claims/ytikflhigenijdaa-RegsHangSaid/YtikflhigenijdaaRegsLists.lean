/- Lists of registers: add, no31, Same. -/
import Derived.Test.YtikflhigenijdaaRows
import Derived.Test.YtikflhigenijdaaBase
namespace Go.Proofs.Ytikflhigenijdaa
open Go.RowKit

def intsZ (l : List Int) : List Value := l.map (Value.int .i64)
theorem intsZ_length (l : List Int) : (intsZ l).length = l.length := by simp [intsZ]
theorem intsZ_snoc (l : List Int) (z : Int) : intsZ (l ++ [z]) = intsZ l ++ [Value.int .i64 z] := by simp [intsZ]
theorem intsZ_at (l : List Int) (j : Nat) (h : j < l.length) : (intsZ l)[j]? = some (.int .i64 (l.getD j 0)) := by simp [intsZ, List.getD, List.getElem?_eq_getElem h]
theorem elz : El Try.prog 47 3 (.int .i64 0) 1 8 := ⟨Try.underlying47, by kernel_rfl⟩

theorem readRow_below {w w' : World} {v : Value} {n : Nat} {xs : List Value} (h : readRow w v n xs) (hb : Below w.heap.size w w') : readRow w' v n xs := by
  obtain ⟨hl, h2 | ⟨g, off, cap, hv, h3, h4, hc⟩⟩ := h
  · exact ⟨hl, .inl h2⟩
  · refine ⟨hl, .inr ⟨g, off, cap, hv, h3, h4, fun j hj => ?_⟩⟩
    have h5 := hc j hj
    rw [List.getElem?_eq_getElem (show j < xs.length by omega)] at h5 ⊢
    rw [hb.cell (World.block_lt_of_cell? w _ h5)]; exact h5
theorem ownsRow_below {w w' : World} {base : Nat} {e : TypeId} {size : Nat} {v : Value} {n : Nat} {xs : List Value} (h : w.ownsRow base e size v n xs) (hb : Below w.heap.size w w') : w'.ownsRow base e size v n xs :=
  h.kept (below_grown hb none) (by cases hv : v.ownBlock <;> simp)

def addL (l : List Int) (n : Int) : List Int := if n = 31 ∨ n ∈ l then l else l ++ [n]

def AddPost (base : Nat) (l : List Int) (n : Int) (w : World) (e : Ending) (w' : World) : Prop :=
  ∃ v, e = .returned v ∧ w'.ownsRow base 3 1 v (addL l n).length (intsZ (addL l n)) ∧ Below base w w'

theorem notin_take {l : List Int} {n : Int} {k : Nat} (hk : k < l.length) (h : n ∉ l.take k) (hz : (l.getD k 0 == n) = false) : n ∉ l.take (k + 1) := by
  rw [List.take_succ_eq_append_getElem hk]
  have : l.getD k 0 = l[k] := by simp [List.getD, List.getElem?_eq_getElem hk]
  rw [this, beq_eq_false_iff_ne] at hz
  simp only [List.mem_append, List.mem_singleton, not_or]
  exact ⟨h, fun e => hz e.symm⟩
theorem in_at {l : List Int} {n : Int} {k : Nat} (hk : k < l.length) (hz : (l.getD k 0 == n) = true) : n ∈ l := by
  have : l.getD k 0 = l[k] := by simp [List.getD, List.getElem?_eq_getElem hk]
  rw [this, beq_iff_eq] at hz
  rw [← hz]; exact List.getElem_mem _

theorem add_any (base : Nat) (v : Value) (l : List Int) (n : Int) (w : World) (hown : w.ownsRow base 3 1 v l.length (intsZ l)) (hl : l.length ≤ 1000) (hbase : base ≤ w.heap.size) :
    Calls Try.prog 40 #[v, .int .i64 n] w (AddPost base l n w) := by
  have HP : Hid (∀ e w', (∃ v, e = .returned v ∧ w'.ownsRow base 3 1 v (addL l n).length (intsZ (addL l n)) ∧ Below base w w') → AddPost base l n w e w') := fun _ _ h => h
  obtain ⟨p, len, cap, rfl⟩ : ∃ p len cap, v = .slice p len cap := by
    obtain ⟨_, ⟨rfl, _⟩ | ⟨g, cap, cur, rfl, _⟩⟩ := hown
    · exact ⟨_, _, _, rfl⟩
    · exact ⟨_, _, _, rfl⟩
  obtain rfl : len = l.length := by
    obtain ⟨_, ⟨h, h0⟩ | ⟨g, c, cur, h, _⟩⟩ := hown
    · injection h with _ h1 _; omega
    · injection h
  by_cases h31 : n = 31
  · subst h31
    have HL : Hid (addL l 31 = l) := by show _ = _; unfold addL; rw [if_pos (.inl rfl)]
    have HO := Lib.hid hown
    clear hown
    go_enter Try.func40, Try.ntmps40
    go_wp2
    go_ret
    exact HP.out _ _ ⟨_, rfl, by rw [HL.out]; exact HO.out, Below.refl _ _⟩
  · have n31 : (n == 31) = false := beq_eq_false_iff_ne.2 h31
    have HO := Lib.hid hown
    have HC : Hid (∀ j, j < l.length → ∃ g, p = some ⟨g, 0, none⟩ ∧ l.length ≤ cap ∧ cap ≤ maxLen ∧ w.cell? ⟨g, j, none⟩ = some (.int .i64 (l.getD j 0))) := fun j hj => by
      obtain ⟨g, cap', h, _, _, h1, h2, hc, _⟩ := own_open hown (by omega)
      injection h with e1 e2 e3
      subst e1 e3
      exact ⟨g, rfl, h1, h2, by rw [hc j hj, intsZ_at _ _ hj]⟩
    have H31 := Lib.hid h31
    clear hown h31
    go_enter Try.func40, Try.ntmps40
    go_wp2_with fail
    go_loop [12] (fun i => ∃ k : Nat, k ≤ l.length ∧ i = .int .i64 k ∧ n ∉ l.take k) (fun i => l.length - (intOf i).toNat)
    case atStart => exact ⟨0, Nat.zero_le _, rfl, by simp⟩
    case round =>
      obtain ⟨k, hk, rfl, hno⟩ := hrel
      have HN := Lib.hid hno
      clear hno
      by_cases hlt : k < l.length
      · obtain ⟨g, rfl, hc1, hc2, hcell⟩ := HC.out k hlt
        unfold maxLen at hc2
        cases hz : (l.getD k 0 == n)
        · have HX := Lib.hid (notin_take hlt HN.out hz)
          generalize l.getD k 0 = z at *
          go_wp2
          go_round
          case rel => exact ⟨k + 1, by omega, by go_num, HX.out⟩
          case measure => simp [intOf]; omega
        · have HL : Hid (addL l n = l) := by show _ = _; unfold addL; rw [if_pos (.inr (in_at hlt hz))]
          generalize l.getD k 0 = z at *
          go_wp2
          go_ret
          exact HP.out _ _ ⟨_, rfl, by rw [HL.out]; exact HO.out, Below.refl _ _⟩
      · obtain rfl : k = l.length := by omega
        have HL : Hid (addL l n = l ++ [n]) := by
          show _ = _; unfold addL
          have h1 := HN.out
          rw [List.take_length] at h1
          rw [if_neg (not_or.2 ⟨H31.out, h1⟩)]
        clear hlt hk
        go_wp2_with (at_builtin; refine app1 rfl _ _ 47 rfl base 3 (.int .i64 0) 8 elz rfl _ _ _ rfl HO.out _ rfl rfl ?c1 ?c2 ?c3 ?_)
        case c1 => unfold maxLen; omega
        case c2 => omega
        try (case c3 => exact hbase)
        intro v' w1 hown' _ hb1
        have HO' := Lib.hid hown'
        clear hown'
        go_wp2
        go_ret
        exact HP.out _ _ ⟨_, rfl, by rw [HL.out, intsZ_snoc, List.length_append]; exact HO'.out, hb1⟩

/-- Two lists of numbers, alike? -/
theorem same_any (a b : List Int) (va vb : Value) (w : World) (ha : readRow w va a.length (intsZ a)) (hb : readRow w vb b.length (intsZ b)) (hab : a = b) :
    Calls Try.prog 23 #[va, vb] w fun e w' => e = .returned (.bool true) ∧ ∃ m, w' = w.drewN m := by
  subst hab
  obtain ⟨_, ⟨rfl, h0⟩ | ⟨g, off, cap, rfl, h1, h2, hc⟩⟩ := ha
  · obtain ⟨p, c, rfl⟩ : ∃ p c, vb = .slice p a.length c := by
      obtain ⟨_, ⟨rfl, _⟩ | ⟨g, off, cap, rfl, _⟩⟩ := hb
      · exact ⟨_, _, by rw [h0]⟩
      · exact ⟨_, _, rfl⟩
    clear hb
    rw [h0]
    go_enter Try.func23, Try.ntmps23
    go_wp2_with fail
    refine wp_loop_rounds 1 ?_
    rw [rounds_succ]
    go_wp2
    go_ret
    exact ⟨rfl, 0, rfl⟩
  · obtain ⟨_, ⟨rfl, h0⟩ | ⟨g', off', cap', rfl, h1', h2', hc'⟩⟩ := hb
    · clear hc
      rw [h0]
      go_enter Try.func23, Try.ntmps23
      go_wp2_with fail
      refine wp_loop_rounds 1 ?_
      rw [rounds_succ]
      go_wp2
      go_ret
      exact ⟨rfl, 0, rfl⟩
    · have HC := Lib.hid hc
      have HC' := Lib.hid hc'
      unfold maxLen at h2 h2'
      clear hc hc'
      go_enter Try.func23, Try.ntmps23
      go_wp2_with fail
      go_loopw [5] (fun i wr => ∃ k m : Nat, k ≤ a.length ∧ i = .int .i64 k ∧ wr = w.drewN m) (fun i _ => a.length - (intOf i).toNat)
      case atStart => exact ⟨0, 0, Nat.zero_le _, rfl, rfl⟩
      case round =>
        obtain ⟨k, m, hk, rfl, rfl⟩ := hrel
        by_cases hlt : k < a.length
        · have c1 := (HC.out k hlt).trans (intsZ_at a k hlt)
          have c2 := (HC'.out k hlt).trans (intsZ_at a k hlt)
          have k0 : (0 : Int) ≤ (k : Int) := by omega
          generalize a.getD k 0 = z at *
          go_wp2_with fail
          go_quiet (fail)
          go_wp2
          go_roundw
          case rel => exact ⟨k + 1, _, by omega, by go_num, rfl⟩
          case measure => simp [intOf]; omega
        · obtain rfl : k = a.length := by omega
          clear hlt hk
          go_wp2
          go_ret
          exact ⟨rfl, _, rfl⟩

end Go.Proofs.Ytikflhigenijdaa
