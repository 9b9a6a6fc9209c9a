/- The examples of layer 19; lists alike; append of any source onto a row of the call's own. -/
import Derived.Test.YtckejjpillcdgaaQueueDrain
import Derived.Laws.AppendOwnNone
import Derived.Test.YtckejjpillcdgaaRds
namespace Go.Proofs.Ytckejjpillcdgaa
open Go.Conc Go.RowKit
set_option linter.unusedVariables false

theorem awake_any (w : World) : Calls Try.prog 6 #[] w fun e w' => e = .returned (.bool true) ∧ Below w.heap.size w w' := by
  go_enter Try.func6, Try.ntmps6
  go_wp2_with fail
  refine (q_new_int 1 (by omega) (by omega) _).mono ?_
  rintro e w1 ⟨gq, c, rfl, hq1, hb1⟩
  have HQ1 := Lib.hid hq1
  have HB1 := Lib.hid hb1
  clear hq1 hb1
  go_wp2_with fail
  refine (q_put_int 1 HQ1.out (by simp)).mono ?_
  rintro e w2 ⟨rfl, hq2, hg2⟩
  have HQ2 := Lib.hid hq2
  have HB2 := Lib.hid (HB1.out.trans (HQ1.out.belowB hg2))
  clear hq2 hg2
  go_wp2_with fail
  refine (q_full_int 2 HQ2.out (by simp)).mono ?_
  rintro e w3 ⟨rfl, rfl⟩
  go_wp2_with fail
  refine (q_take_int 1 HQ2.out).mono ?_
  rintro e w4 ⟨rfl, hq4, hg4⟩
  have HQ4 := Lib.hid hq4
  have HB4 := Lib.hid (HB2.out.trans (HQ2.out.belowB hg4))
  clear hq4 hg4
  go_wp2_with fail
  refine (q_room_int HQ4.out (by omega) (by simp)).mono ?_
  rintro e w5 ⟨rfl, rfl⟩
  go_wp2
  go_ret
  exact ⟨rfl, HB4.out⟩

theorem Rds.ck {w w' : World} {size n : Nat} {p : Option Addr} {xs : List Value} (h : Rds w size p n xs) (hc : CK w w') : Rds w' size p n xs := h.keep fun _ _ hcell => hc.cell hcell

theorem same_true (l : List Int) (pa pb : Option Addr) (ca cb : Nat) (w : World) (hlen : l.length ≤ 9223372036854775807) (ha : Rds w 1 pa l.length (vals_int l)) (hb : Rds w 1 pb l.length (vals_int l)) :
    Calls Try.prog 10 #[.slice pa l.length ca, .slice pb l.length cb] w fun e w' => e = .returned (.bool true) ∧ ∃ m, w' = w.drewN m := by
  have HA := Lib.hid (fun k (hk : k < l.length) => Rds.int_at ha hk)
  have HB := Lib.hid (fun k (hk : k < l.length) => Rds.int_at hb hk)
  clear ha hb
  go_enter Try.func10, Try.ntmps10
  go_wp2_with fail
  go_loopw [5] (fun i wr => ∃ k m : Nat, k ≤ l.length ∧ i = .int .i64 k ∧ wr = w.drewN m) (fun i _ => l.length - (intOf i).toNat)
  case atStart => exact ⟨0, 0, by omega, rfl, rfl⟩
  case round =>
    obtain ⟨k, m, hk, rfl, rfl⟩ := hrel
    by_cases hlt : k < l.length
    · obtain ⟨g, off, rfl, h1⟩ := HA.out k hlt
      obtain ⟨g2, off2, rfl, h2⟩ := HB.out k hlt
      generalize l.getD k 0 = z at *
      have hkl : (k : Int) < l.length := by omega
      have hk0 : (0 : Int) ≤ k := by omega
      go_wp2_with fail
      go_quiet (fail)
      go_wp2_with fail
      go_roundw
      case rel => exact ⟨k + 1, m + nq, by omega, by go_num, rfl⟩
      case measure => simp [intOf]; omega
    · obtain rfl : k = l.length := by omega
      go_wp2
      go_ret
      exact ⟨rfl, m, rfl⟩

/-- append(s, x...): s a row of the call's own, x whatever can be read. -/
theorem appOwn {P : Program} {ops : Array Oper} {rest : List Oper} {o : Oper} {a : Act} {Q : Exit → Act → World → Prop} {wr : World} (hgd : o.guard = none) (s x : Operand) (t : TypeId)
    (ho : o.op = .call { callee := .builtin .append, args := #[s, x], argTypes := #[t, t] })
    (base : Nat) (e : TypeId) (z : Value) (bytes : Nat) (hel : El P t e z 1 bytes) (hzs : z.cells.size = 1)
    (v : Value) (n : Nat) (xs : List Value) (hs : a.eval s = v) (hown : wr.ownsRow base e 1 v n xs)
    (p : Option Addr) (m c : Nat) (news : List Value) (hx : a.eval x = .slice p m c) (hr : Rds wr 1 p m news) (hpn : p = none → c = 0) (h1 : ∀ u ∈ news, u.oneCell' = true)
    (hn : n + m ≤ maxLen) (hby : (n + m) * bytes ≤ 140737488355328) (hbase : base ≤ wr.heap.size)
    (h : ∀ v' w', w'.ownsRow base e 1 v' (n + m) (xs ++ news) → wr.grownBy w' v.ownBlock → Below base wr w' → wpList P ops Q rest (a.put o.dst v') w') :
    wpList P ops Q (o :: rest) a wr := by
  obtain ⟨ht, hinfo⟩ := hel
  obtain ⟨i, hi, hz0, hz1, hz2⟩ := info_parts hinfo
  have hl := hr.1
  rw [Nat.mul_one] at hl
  cases p with
  | none =>
    obtain rfl := hpn rfl
    have hm : m = 0 := by
      rcases Nat.eq_zero_or_pos m with h0 | h0
      · exact h0
      · obtain ⟨g, off, hp, _⟩ := hr.2 h0; cases hp
    subst hm
    have hnil : news = [] := List.eq_nil_of_length_eq_zero hl
    subst hnil
    refine wpList_append_own_none hgd s x t ho base e i 1 ht hi v n xs hs hown hx ?_
    exact h v wr (by simpa using hown) (World.grownBy.refl _ _) (Below.refl _ _)
  | some ad =>
    refine wpList_append_own wr hgd s x t ho base e i z 1 bytes ht hi hz0 hz1 hz2 hzs (by decide) v n xs hs hown ad m c news hx (by omega) ?_ h1 hn hby hbase ?_
    · intro j u hj
      have hjm : j < m := by
        rcases Nat.lt_or_ge j news.length with h | h
        · omega
        · rw [List.getElem?_eq_none h] at hj; cases hj
      obtain ⟨g, off, hp, hc⟩ := hr.2 (by omega)
      injection hp with hp
      subst hp
      rw [addr_add]; exact (hc j (by omega)).trans hj
    · intro v' w' hown' hg _
      exact h v' w' hown' hg ((Below.refl base wr).grown hg hbase (fun k hk => (hown.lt k hk).1))
end Go.Proofs.Ytckejjpillcdgaa
