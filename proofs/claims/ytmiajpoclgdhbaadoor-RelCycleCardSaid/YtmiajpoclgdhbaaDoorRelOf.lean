/- rel.Of; Copy. -/
import Derived.Test.YtmiajpoclgdhbaaDoorRelNew
import Derived.Test.YtmiajpoclgdhbaaDoorRds
namespace Go.Proofs.YtmiajpoclgdhbaaDoor
open Go.RowKit
set_option linter.unusedVariables false

def pairCells (l : List (Int × Int)) : List Value := l.flatMap fun p => [.int .i64 p.1, .int .i64 p.2]
theorem pairCells_get : ∀ (l : List (Int × Int)) (i : Nat) (h : i < l.length), (pairCells l)[i * 2]? = some (.int .i64 l[i].1) ∧ (pairCells l)[i * 2 + 1]? = some (.int .i64 l[i].2)
  | r :: l, 0, _ => by simp [pairCells]
  | r :: l, i + 1, h => by
    have := pairCells_get l i (by simpa using h)
    have e : pairCells (r :: l) = [.int .i64 r.1, .int .i64 r.2] ++ pairCells l := rfl
    rw [e, List.getElem?_append_right (by simp; omega), List.getElem?_append_right (by simp; omega)]
    simp only [List.length_cons, List.length_nil, List.getElem_cons_succ]
    rw [show (i + 1) * 2 - (0 + 1 + 1) = i * 2 by omega, show (i + 1) * 2 + 1 - (0 + 1 + 1) = i * 2 + 1 by omega]
    exact this
theorem pair_at {w : World} {p : Option Addr} {l : List (Int × Int)} (h : Rds w 2 p l.length (pairCells l)) {i : Nat} (hi : i < l.length) :
    ∃ g off, p = some ⟨g, off, none⟩ ∧ w.cell? ⟨g, off + i * 2, none⟩ = some (.int .i64 l[i].1) ∧ w.cell? ⟨g, off + i * 2 + 1, none⟩ = some (.int .i64 l[i].2) := by
  obtain ⟨g, off, hp, hc⟩ := h.2 (by omega)
  obtain ⟨h0, h1⟩ := pairCells_get l i hi
  exact ⟨g, off, hp, (hc _ (by omega)).trans h0, (hc (i * 2 + 1) (by omega)).trans h1⟩
/-- May a pair be? -/
def okP (n : Nat) (p : Int × Int) : Bool := decide (0 ≤ p.1 ∧ p.1 < n ∧ 0 ≤ p.2 ∧ p.2 < n)
def ofW (n : Nat) (l : List (Int × Int)) : List Nat := l.foldl (fun ws p => addP ws p.1.toNat p.2.toNat) (zeros n)
theorem ofW_snoc (n : Nat) (l : List (Int × Int)) (p : Int × Int) : ofW n (l ++ [p]) = addP (ofW n l) p.1.toNat p.2.toNat := by simp [ofW]
theorem take_snoc' {α : Type} (l : List α) (k : Nat) (h : k < l.length) : l.take (k + 1) = l.take k ++ [l[k]] := (List.take_append_getElem h).symm
theorem all_take {α : Type} {q : α → Bool} {l : List α} {k : Nat} (h : k < l.length) (ha : (l.take k).all q = true) : (l.take (k + 1)).all q = q l[k] := by rw [take_snoc' l k h, List.all_append, ha]; simp
theorem all_not {α : Type} {q : α → Bool} {l : List α} {k : Nat} (h : k < l.length) (hq : q l[k] = false) : l.all q = false := by
  rw [List.all_eq_false]; exact ⟨l[k], List.getElem_mem h, by simp [hq]⟩

def OfPost (n : Nat) (l : List (Int × Int)) (w : World) (e : Ending) (w' : World) : Prop :=
  Below w.heap.size w w' ∧ ((l.all (okP n) = true ∧ e = .returned (.tuple #[.pointer (some ⟨w.heap.size + 1, 0, none⟩), .int .i64 0]) ∧ RelAt w' (w.heap.size + 1) w.heap.size n (ofW n l)) ∨ (l.all (okP n) = false ∧ e = .returned (.tuple #[.pointer none, .int .i64 1])))
set_option maxHeartbeats 1600000 in
theorem relof_any (n : Nat) (l : List (Int × Int)) (p : Option Addr) (c : Nat) (w : World) (hn : n ≤ 128) (hl : l.length ≤ 1000000) (hp : Rds w 2 p l.length (pairCells l)) (hc : l.length ≤ c) :
    Calls Tryd.prog 26 #[.int .i64 n, .slice p l.length c] w (OfPost n l w) := by
  have HP0 := Lib.hid hp
  clear hp
  have HN := Lib.hid (relnew_ok n w hn)
  go_enter Tryd.func26, Tryd.ntmps26
  go_wp2_with fail
  refine (HN.out).mono ?_
  rintro e w1 ⟨rfl, hr1, hb1⟩
  have HR := Lib.hid hr1
  have HB := Lib.hid hb1
  clear hr1 hb1 HN
  go_wp2_with fail
  go_loopw [21] (fun i wr => ∃ k : Nat, k ≤ l.length ∧ i = .int .i64 k ∧ RelAt wr (w.heap.size + 1) w.heap.size n (ofW n (l.take k)) ∧ (l.take k).all (okP n) = true ∧ Below w.heap.size w wr) (fun i _ => l.length - (intOf i).toNat)
  case atStart => exact ⟨0, by omega, rfl, by rw [List.take_zero]; exact HR.out, rfl, HB.out⟩
  case round =>
    clear HR HB
    obtain ⟨k, hk, rfl, hR, hA, hB⟩ := hrel
    obtain ⟨wo, rfl⟩ : ∃ wo : World, wo = wr := ⟨_, rfl⟩
    by_cases hlt : k < l.length
    · obtain ⟨g, off, rfl, p0, p1⟩ := pair_at (HP0.out.below hB) hlt
      have HB := Lib.hid (below_alloc hB (.cells #[.int .i64 l[k].1, .int .i64 l[k].2] 51))
      have hR2 := hR.below (below_alloc (Below.refl _ _) (.cells #[.int .i64 l[k].1, .int .i64 l[k].2] 51))
      have HA := Lib.hid (all_take hlt hA)
      have HNO := Lib.hid (fun h : okP n l[k] = false => all_not hlt h)
      have HTS := Lib.hid (take_snoc' l k hlt)
      have HSN := Lib.hid (ofW_snoc n (l.take k) l[k])
      have HQ := Lib.hid (show okP n l[k] = decide (0 ≤ l[k].1 ∧ l[k].1 < n ∧ 0 ≤ l[k].2 ∧ l[k].2 < n) from rfl)
      have hk0 : (0 : Int) ≤ k := by omega
      have hki : (k : Int) < l.length := by omega
      have HR2 := Lib.hid hR2
      clear hR hR2 hA hB
      generalize l[k].1 = a at *
      generalize l[k].2 = b at *
      by_cases hok : 0 ≤ a ∧ a < n ∧ 0 ≤ b ∧ b < n
      · have HOK := Lib.hid (HA.out.trans (HQ.out.trans (decide_eq_true hok)))
        obtain ⟨h0, h1, h2, h3⟩ := hok
        obtain ⟨a, rfl⟩ := Int.eq_ofNat_of_zero_le h0
        obtain ⟨b, rfl⟩ := Int.eq_ofNat_of_zero_le h2
        have HADD := Lib.hid (reladd_ok _ _ n a b _ _ HR2.out hn (by omega) (by omega))
        clear HQ HNO HA h0 h1 h2 h3
        go_wp2_with fail
        refine (HADD.out).mono ?_
        rintro e w3 ⟨rfl, hr3, hg3⟩
        have HR3 := Lib.hid hr3
        have HB3 := Lib.hid (HB.out.grown hg3 (by have := HB.out.size; omega) (fun k hk => by injection hk with hk; omega))
        clear hr3 hg3 HB HR2 HADD
        go_wp2_with fail
        go_roundw
        case rel => exact ⟨k + 1, by omega, by go_num, by rw [HTS.out, HSN.out]; exact HR3.out, HOK.out, HB3.out⟩
        case measure => simp [intOf]; omega
      · have HNA := Lib.hid (HNO.out (HQ.out.trans (decide_eq_false hok)))
        have HADD := Lib.hid (reladd_bad _ _ n a b _ _ HR2.out hn hok)
        clear HQ HNO HA hok HR2
        go_wp2_with fail
        refine (HADD.out).mono ?_
        rintro e w3 ⟨rfl, rfl⟩
        go_wp2_with fail
        go_ret2
        exact ⟨HB.out, .inr ⟨HNA.out, rfl⟩⟩
    · obtain rfl : k = l.length := by omega
      rw [List.take_length] at hR hA
      have HR := Lib.hid hR
      have HB := Lib.hid hB
      have HA := Lib.hid hA
      clear hR hA hB
      go_wp2_with fail
      go_ret2
      exact ⟨HB.out, .inl ⟨HA.out, rfl, HR.out⟩⟩
end Go.Proofs.YtmiajpoclgdhbaaDoor
