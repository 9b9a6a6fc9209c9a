/- Drain and Grown of a row. -/
import Derived.Test.YtckejjpillcdgaaQueueRow
namespace Go.Proofs.Ytckejjpillcdgaa
open Go.Conc Go.RowKit
set_option linter.unusedVariables false

theorem CK.step {w a b : World} (h : CK w a) (hb : Below w.heap.size a b) : CK w b := fun k cs t fr hk => (hb.block k (Array.getElem?_eq_some_iff.1 hk).1).trans (h k cs t fr hk)
theorem grown_below {w a b : World} {row : Option Nat} (h : w.grownBy a row) (hb : Below w.heap.size a b) : w.grownBy b row :=
  ⟨hb.os.trans h.os, hb.tape.trans h.tape, hb.output.trans h.output, Nat.le_trans h.size hb.size, fun k hk hne => (hb.block k hk).trans (h.block k hk hne)⟩
def lenOf : Value → Nat | .slice _ n _ => n | _ => 0
theorem own_shape' {w : World} {base : Nat} {e : TypeId} {size : Nat} {v : Value} {n : Nat} {xs : List Value} (h : w.ownsRow base e size v n xs) : ∃ p c, v = .slice p n c := by
  obtain ⟨_, ⟨rfl, rfl⟩ | ⟨g, cap, cur, rfl, _⟩⟩ := h
  · exact ⟨_, _, rfl⟩
  · exact ⟨_, _, rfl⟩

def vals_int (l : List Int) : List Value := l.map (Value.int .i64)
theorem vals_len_int (l : List Int) : (vals_int l).length = l.length := by simp [vals_int]
theorem vals_snoc_int (l : List Int) (x : Int) : vals_int (l ++ [x]) = vals_int l ++ [(Value.int .i64) x] := by simp [vals_int]
theorem vals_take_int (l : List Int) (k : Nat) (hk : k < l.length) : vals_int (l.take (k + 1)) = vals_int (l.take k) ++ [(Value.int .i64) l[k]] := by
  rw [List.take_succ_eq_append_getElem hk, vals_snoc_int]
theorem vals_drop_int (l : List Int) (k : Nat) (hk : k < l.length) : vals_int (l.drop k) = (Value.int .i64) l[k] :: vals_int (l.drop (k + 1)) := by
  rw [List.drop_eq_getElem_cons hk]; rfl
def DrInv_int (w : World) (B gq c cap : Nat) (xs : List Int) (k : Nat) (v : Value) (wr : World) : Prop :=
  QRow wr 57 B gq c cap (vals_int (xs.drop k)) ∧ wr.ownsRow w.heap.size 3 1 v k (vals_int (xs.take k)) ∧ w.grownBy wr (some c)
theorem drInv_step_int {w wr w1 w2 : World} {B gq c cap : Nat} {xs : List Int} {k : Nat} {v v' : Value} (hk : k < xs.length) (h : DrInv_int w B gq c cap xs k v wr) (hq : QRow w1 57 B gq c cap (vals_int (xs.drop (k + 1)))) (hgc : wr.grownBy w1 (some c))
    (ho : w2.ownsRow w.heap.size 3 1 v' (k + 1) (vals_int (xs.take k) ++ [(Value.int .i64) xs[k]])) (hg : w1.grownBy w2 v.ownBlock) (hb2 : Below w.heap.size w1 w2) : DrInv_int w B gq c cap xs (k + 1) v' w2 := by
  obtain ⟨h1, h2, h3⟩ := h
  exact ⟨hq.kept hg (own_row_cells ((h1.ck hgc).own h2) (by decide)), by rw [vals_take_int _ _ hk]; exact ho, grown_below (h3.trans hgc) hb2⟩

set_option maxHeartbeats 800000 in
theorem q_drain_int {B gq c cap : Nat} (xs : List Int) {w : World} (hq : QRow w 57 B gq c cap (vals_int xs)) (hl : xs.length ≤ 1000000) :
    Calls Try.prog 11 #[.pointer (some ⟨gq, 0, none⟩)] w fun e w' => ∃ v, e = .returned v ∧ w'.ownsRow w.heap.size 3 1 v xs.length (vals_int xs) ∧ QRow w' 57 B gq c cap [] ∧ w.grownBy w' (some c) := by
  have HI0 := Lib.hid (show DrInv_int w B gq c cap xs 0 (.slice none 0 0) w from ⟨hq, ⟨by simp [vals_int], .inl ⟨rfl, rfl⟩⟩, World.grownBy.refl _ _⟩)
  clear hq
  go_enter Try.func11, Try.ntmps11
  go_wp2_with fail
  go_loopw [3] (fun v wr => ∃ k, k ≤ xs.length ∧ DrInv_int w B gq c cap xs k v wr) (fun v _ => xs.length + 1 - lenOf v)
  case atStart => exact ⟨0, by omega, HI0.out⟩
  case round =>
    obtain ⟨k, hk, hi⟩ := hrel
    obtain ⟨p, cp, rfl⟩ := own_shape' hi.2.1
    have HI := Lib.hid hi
    clear hi HI0
    by_cases hlt : k < xs.length
    · have hq := HI.out.1
      rw [vals_drop_int xs k hlt] at hq
      have HQ := Lib.hid hq
      have HX : Hid (xs[k] = xs[k]) := rfl
      clear hq
      obtain ⟨x, hx⟩ : ∃ x, xs[k] = x := ⟨_, rfl⟩
      rw [hx] at HQ
      have HXK := Lib.hid hx
      clear HX hx
      go_wp2_with fail
      refine (q_take_int x HQ.out).mono ?_
      rintro e w1 ⟨rfl, hq1, hg1⟩
      have HQ1 := Lib.hid hq1
      have HG1 := Lib.hid hg1
      have HO1 := Lib.hid ((HI.out.1.ck hg1).own HI.out.2.1)
      have HZ := Lib.hid (Nat.le_trans HI.out.2.2.size hg1.size)
      clear hq1 hg1 HQ
      go_wp2_with (at_builtin; refine app1 rfl _ _ 22 rfl w.heap.size 3 (.int .i64 0) 8 el_int rfl _ _ _ rfl HO1.out _ rfl rfl ?c1 ?c2 HZ.out ?_)
      case c1 => unfold maxLen; omega
      case c2 => omega
      intro v' w2 hown' hg2 hb2
      obtain ⟨p2, cp2, rfl⟩ := own_shape' hown'
      have HN := Lib.hid (drInv_step_int hlt HI.out HQ1.out HG1.out (by rw [HXK.out]; exact hown') hg2 hb2)
      clear hown' hg2 hb2
      go_wp2
      go_roundw
      case rel => exact ⟨k + 1, by omega, HN.out⟩
      case measure => simp [lenOf]; omega
    · obtain rfl : k = xs.length := by omega
      have hi := HI.out
      have e1 : vals_int (xs.drop xs.length) = [] := by simp [vals_int]
      have hq := hi.1
      rw [e1] at hq
      have HQ := Lib.hid hq
      have ho := hi.2.1
      rw [List.take_length] at ho
      have HO := Lib.hid ho
      have HG := Lib.hid hi.2.2
      clear hi e1 hq ho hlt
      go_wp2_with fail
      refine (q_none_int HQ.out).mono ?_
      rintro e w1 ⟨rfl, rfl⟩
      go_wp2
      go_ret
      exact ⟨_, rfl, HO.out, HQ.out, HG.out⟩

def GrInv_int (w : World) (B gq c gq2 c2 cap cap2 : Nat) (xs : List Int) (v : Value) (k : Nat) (wr : World) : Prop :=
  QRow wr 57 B gq2 c2 cap2 (vals_int (xs.take k)) ∧ QRow wr 57 B gq c cap [] ∧ readRow wr v xs.length (vals_int xs) ∧ w.grownBy wr (some c) ∧ w.heap.size ≤ c2
theorem grInv_step_int {w wr w1 : World} {B gq c gq2 c2 cap cap2 : Nat} {xs : List Int} {v : Value} {k : Nat} (hk : k < xs.length) (hc : c < w.heap.size) (h : GrInv_int w B gq c gq2 c2 cap cap2 xs v k wr)
    (hq : QRow w1 57 B gq2 c2 cap2 (vals_int (xs.take k) ++ [(Value.int .i64) xs[k]])) (hg : wr.grownBy w1 (some c2)) : GrInv_int w B gq c gq2 c2 cap cap2 xs v (k + 1) w1 := by
  obtain ⟨h1, h2, h3, h4, h5⟩ := h
  refine ⟨by rw [vals_take_int _ _ hk]; exact hq, h2.other h1 hg (by omega), (h1.ck hg).read h3, ?_, h5⟩
  exact ⟨hg.os.trans h4.os, hg.tape.trans h4.tape, hg.output.trans h4.output, Nat.le_trans h4.size hg.size, fun k hk hne => (hg.block k (Nat.lt_of_lt_of_le hk h4.size) (fun e => by injection e with e; omega)).trans (h4.block k hk hne)⟩

set_option maxHeartbeats 800000 in
theorem q_grown_int {B gq c cap : Nat} (more : Nat) (xs : List Int) {w : World} (hq : QRow w 57 B gq c cap (vals_int xs)) (hl : xs.length ≤ cap) (h1 : 1 ≤ cap) (hcap : cap + more ≤ 200000) :
    Calls Try.prog 14 #[.pointer (some ⟨gq, 0, none⟩), .int .i64 more] w fun e w' => ∃ gq2 c2, e = .returned (.tuple #[.pointer (some ⟨gq2, 0, none⟩), .int .i64 0]) ∧ QRow w' 57 B gq2 c2 (cap + more) (vals_int xs) ∧ QRow w' 57 B gq c cap [] ∧ w.grownBy w' (some c) := by
  have HQ := Lib.hid hq
  have m0 : (0 : Int) ≤ more := by omega
  have m1 : (more : Int) ≤ 200000 := by omega
  have m2 : (cap : Int) + more ≤ 200000 := by omega
  have m3 : (1 : Int) ≤ cap := by omega
  clear hq
  go_enter Try.func14, Try.ntmps14
  go_wp2_with fail
  refine (q_room_int HQ.out (by omega) (by rw [vals_len_int]; omega)).mono ?_
  rintro e w1 ⟨rfl, rfl⟩
  go_wp2_with fail
  have e1 : ((cap : Int) + more) = ((cap + more : Nat) : Int) := by omega
  rw [e1]
  refine (q_new_int (cap + more) (by omega) hcap _).mono ?_
  rintro e w2 ⟨gq2, c2, rfl, hq2, hb2⟩
  have HQ2 := Lib.hid (hq2.mono (B' := B) (Nat.le_of_lt (Nat.lt_of_le_of_lt HQ.out.Bc HQ.out.clt)))
  have HC2 := Lib.hid (show w.heap.size ≤ c2 from hq2.Bc)
  have HQ := Lib.hid (show QRow w 57 B gq c cap (vals_int xs) from HQ.out)
  have HQ1 := Lib.hid (HQ.out.below hb2)
  have HB2 := Lib.hid hb2
  clear hq2 hb2 e1
  go_wp2_with fail
  refine (q_drain_int xs HQ1.out (by omega)).mono ?_
  rintro e w3 ⟨v, rfl, ho3, hq3, hg3⟩
  obtain ⟨p, cp, rfl⟩ := own_shape' ho3
  have HC0 := Lib.hid HQ.out.clt
  have HI0 := Lib.hid (show GrInv_int w B gq c gq2 c2 cap (cap + more) xs (.slice p xs.length cp) 0 w3 from ⟨HQ2.out.other HQ1.out hg3 (by have := HC2.out; have := HC0.out; omega), hq3, readRow_own ho3, ⟨hg3.os.trans HB2.out.os, hg3.tape.trans HB2.out.tape, hg3.output.trans HB2.out.output, Nat.le_trans HB2.out.size hg3.size, fun k hk hne => (hg3.block k (Nat.lt_of_lt_of_le hk HB2.out.size) hne).trans (HB2.out.block k hk)⟩, HC2.out⟩)
  have HR := Lib.hid (fun j (hj : j < xs.length) => show ∃ g' cap', p = some ⟨g', 0, none⟩ ∧ cp = cap' ∧ xs.length ≤ cap' from by
    obtain ⟨g', c', hv, _, _, h4, _⟩ := own_open ho3 (by omega)
    injection hv with e1 e2 e3
    exact ⟨g', c', e1, e3, h4⟩)
  clear ho3 hq3 hg3 HQ HQ1 HQ2 HB2
  go_wp2_with fail
  go_loopw [30] (fun i wr => ∃ k : Nat, k ≤ xs.length ∧ i = .int .i64 k ∧ GrInv_int w B gq c gq2 c2 cap (cap + more) xs (.slice p xs.length cp) k wr) (fun i _ => xs.length - (intOf i).toNat)
  case atStart => exact ⟨0, by omega, rfl, HI0.out⟩
  case round =>
    obtain ⟨k, hk, rfl, hi⟩ := hrel
    have HI := Lib.hid hi
    clear hi HI0
    by_cases hlt : k < xs.length
    · have hcell : ∃ g off, p = some ⟨g, off, none⟩ ∧ wr.cell? ⟨g, off + k, none⟩ = some ((Value.int .i64) xs[k]) := by
        obtain ⟨_, ⟨h2, h0⟩ | ⟨g, off, c', hv, _, _, hc⟩⟩ := HI.out.2.2.1
        · omega
        · injection hv with e1 e2 e3
          exact ⟨g, off, e1, by rw [hc k hlt]; simp [vals_int, hlt]⟩
      obtain ⟨g, off, rfl, hcell⟩ := hcell
      obtain ⟨x, hx⟩ : ∃ x, xs[k] = x := ⟨_, rfl⟩
      rw [hx] at hcell
      have HX := Lib.hid hx
      clear hx
      go_wp2_with fail
      refine (q_put_int x HI.out.1 (by rw [vals_len_int, List.length_take]; omega)).mono ?_
      rintro e w4 ⟨rfl, hq4, hg4⟩
      have HN := Lib.hid (grInv_step_int hlt HC0.out HI.out (by rw [HX.out]; exact hq4) hg4)
      clear hq4 hg4 hcell
      go_wp2
      go_roundw
      case rel => exact ⟨k + 1, by omega, by go_num, HN.out⟩
      case measure => simp [intOf]; omega
    · obtain rfl : k = xs.length := by omega
      have hi := HI.out
      have hq := hi.1
      rw [List.take_length] at hq
      have HA := Lib.hid hq
      have HB := Lib.hid hi.2.1
      have HG := Lib.hid hi.2.2.2.1
      clear hi hq hlt HI
      go_wp2
      go_ret2
      exact ⟨_, _, rfl, HA.out, HB.out, HG.out⟩

theorem q_grown_no_int {B gq c cap : Nat} (more : Int) {vs : List Value} {w : World} (hq : QRow w 57 B gq c cap vs) (hl : vs.length ≤ 1000000) (h1 : 1 ≤ cap) (hcap : cap ≤ 200000) (h : more < 0 ∨ 200000 - cap < more) :
    Calls Try.prog 14 #[.pointer (some ⟨gq, 0, none⟩), .int .i64 more] w fun e w' => e = .returned (.tuple #[.pointer none, .int .i64 1]) ∧ w = w' := by
  have HQ := Lib.hid hq
  have m3 : (1 : Int) ≤ cap := by omega
  have m4 : (cap : Int) ≤ 200000 := by omega
  clear hq
  by_cases c1 : more < 0
  · clear h
    go_enter Try.func14, Try.ntmps14
    go_wp2
    go_ret2
    exact ⟨rfl, rfl⟩
  by_cases c2 : 200000 < more
  · clear h
    go_enter Try.func14, Try.ntmps14
    go_wp2
    go_ret2
    exact ⟨rfl, rfl⟩
  · have m5 : 200000 < (cap : Int) + more := by omega
    have m6 : (cap : Int) + more ≤ 400000 := by omega
    clear h
    go_enter Try.func14, Try.ntmps14
    go_wp2_with fail
    refine (q_room_int HQ.out (by omega) hl).mono ?_
    rintro e w1 ⟨rfl, rfl⟩
    go_wp2_with fail
    refine (q_new_no_int _ (.inr m5) _).mono ?_
    rintro e w2 ⟨rfl, rfl⟩
    go_wp2
    go_ret2
    exact ⟨rfl, rfl⟩

def vals_string (l : List ByteArray) : List Value := l.map Value.string
theorem vals_len_string (l : List ByteArray) : (vals_string l).length = l.length := by simp [vals_string]
theorem vals_snoc_string (l : List ByteArray) (x : ByteArray) : vals_string (l ++ [x]) = vals_string l ++ [Value.string x] := by simp [vals_string]
theorem vals_take_string (l : List ByteArray) (k : Nat) (hk : k < l.length) : vals_string (l.take (k + 1)) = vals_string (l.take k) ++ [Value.string l[k]] := by
  rw [List.take_succ_eq_append_getElem hk, vals_snoc_string]
theorem vals_drop_string (l : List ByteArray) (k : Nat) (hk : k < l.length) : vals_string (l.drop k) = Value.string l[k] :: vals_string (l.drop (k + 1)) := by
  rw [List.drop_eq_getElem_cons hk]; rfl
def DrInv_string (w : World) (B gq c cap : Nat) (xs : List ByteArray) (k : Nat) (v : Value) (wr : World) : Prop :=
  QRow wr 60 B gq c cap (vals_string (xs.drop k)) ∧ wr.ownsRow w.heap.size 9 1 v k (vals_string (xs.take k)) ∧ w.grownBy wr (some c)
theorem drInv_step_string {w wr w1 w2 : World} {B gq c cap : Nat} {xs : List ByteArray} {k : Nat} {v v' : Value} (hk : k < xs.length) (h : DrInv_string w B gq c cap xs k v wr) (hq : QRow w1 60 B gq c cap (vals_string (xs.drop (k + 1)))) (hgc : wr.grownBy w1 (some c))
    (ho : w2.ownsRow w.heap.size 9 1 v' (k + 1) (vals_string (xs.take k) ++ [Value.string xs[k]])) (hg : w1.grownBy w2 v.ownBlock) (hb2 : Below w.heap.size w1 w2) : DrInv_string w B gq c cap xs (k + 1) v' w2 := by
  obtain ⟨h1, h2, h3⟩ := h
  exact ⟨hq.kept hg (own_row_cells ((h1.ck hgc).own h2) (by decide)), by rw [vals_take_string _ _ hk]; exact ho, grown_below (h3.trans hgc) hb2⟩

set_option maxHeartbeats 800000 in
theorem q_drain_string {B gq c cap : Nat} (xs : List ByteArray) {w : World} (hq : QRow w 60 B gq c cap (vals_string xs)) (hl : xs.length ≤ 1000000) :
    Calls Try.prog 24 #[.pointer (some ⟨gq, 0, none⟩)] w fun e w' => ∃ v, e = .returned v ∧ w'.ownsRow w.heap.size 9 1 v xs.length (vals_string xs) ∧ QRow w' 60 B gq c cap [] ∧ w.grownBy w' (some c) := by
  have HI0 := Lib.hid (show DrInv_string w B gq c cap xs 0 (.slice none 0 0) w from ⟨hq, ⟨by simp [vals_string], .inl ⟨rfl, rfl⟩⟩, World.grownBy.refl _ _⟩)
  clear hq
  go_enter Try.func24, Try.ntmps24
  go_wp2_with fail
  go_loopw [3] (fun v wr => ∃ k, k ≤ xs.length ∧ DrInv_string w B gq c cap xs k v wr) (fun v _ => xs.length + 1 - lenOf v)
  case atStart => exact ⟨0, by omega, HI0.out⟩
  case round =>
    obtain ⟨k, hk, hi⟩ := hrel
    obtain ⟨p, cp, rfl⟩ := own_shape' hi.2.1
    have HI := Lib.hid hi
    clear hi HI0
    by_cases hlt : k < xs.length
    · have hq := HI.out.1
      rw [vals_drop_string xs k hlt] at hq
      have HQ := Lib.hid hq
      have HX : Hid (xs[k] = xs[k]) := rfl
      clear hq
      obtain ⟨x, hx⟩ : ∃ x, xs[k] = x := ⟨_, rfl⟩
      rw [hx] at HQ
      have HXK := Lib.hid hx
      clear HX hx
      go_wp2_with fail
      refine (q_take_string x HQ.out).mono ?_
      rintro e w1 ⟨rfl, hq1, hg1⟩
      have HQ1 := Lib.hid hq1
      have HG1 := Lib.hid hg1
      have HO1 := Lib.hid ((HI.out.1.ck hg1).own HI.out.2.1)
      have HZ := Lib.hid (Nat.le_trans HI.out.2.2.size hg1.size)
      clear hq1 hg1 HQ
      go_wp2_with (at_builtin; refine app1 rfl _ _ 61 rfl w.heap.size 9 (.string ⟨#[]⟩) 16 el_string rfl _ _ _ rfl HO1.out _ rfl rfl ?c1 ?c2 HZ.out ?_)
      case c1 => unfold maxLen; omega
      case c2 => omega
      intro v' w2 hown' hg2 hb2
      obtain ⟨p2, cp2, rfl⟩ := own_shape' hown'
      have HN := Lib.hid (drInv_step_string hlt HI.out HQ1.out HG1.out (by rw [HXK.out]; exact hown') hg2 hb2)
      clear hown' hg2 hb2
      go_wp2
      go_roundw
      case rel => exact ⟨k + 1, by omega, HN.out⟩
      case measure => simp [lenOf]; omega
    · obtain rfl : k = xs.length := by omega
      have hi := HI.out
      have e1 : vals_string (xs.drop xs.length) = [] := by simp [vals_string]
      have hq := hi.1
      rw [e1] at hq
      have HQ := Lib.hid hq
      have ho := hi.2.1
      rw [List.take_length] at ho
      have HO := Lib.hid ho
      have HG := Lib.hid hi.2.2
      clear hi e1 hq ho hlt
      go_wp2_with fail
      refine (q_none_string HQ.out).mono ?_
      rintro e w1 ⟨rfl, rfl⟩
      go_wp2
      go_ret
      exact ⟨_, rfl, HO.out, HQ.out, HG.out⟩

def GrInv_string (w : World) (B gq c gq2 c2 cap cap2 : Nat) (xs : List ByteArray) (v : Value) (k : Nat) (wr : World) : Prop :=
  QRow wr 60 B gq2 c2 cap2 (vals_string (xs.take k)) ∧ QRow wr 60 B gq c cap [] ∧ readRow wr v xs.length (vals_string xs) ∧ w.grownBy wr (some c) ∧ w.heap.size ≤ c2
theorem grInv_step_string {w wr w1 : World} {B gq c gq2 c2 cap cap2 : Nat} {xs : List ByteArray} {v : Value} {k : Nat} (hk : k < xs.length) (hc : c < w.heap.size) (h : GrInv_string w B gq c gq2 c2 cap cap2 xs v k wr)
    (hq : QRow w1 60 B gq2 c2 cap2 (vals_string (xs.take k) ++ [Value.string xs[k]])) (hg : wr.grownBy w1 (some c2)) : GrInv_string w B gq c gq2 c2 cap cap2 xs v (k + 1) w1 := by
  obtain ⟨h1, h2, h3, h4, h5⟩ := h
  refine ⟨by rw [vals_take_string _ _ hk]; exact hq, h2.other h1 hg (by omega), (h1.ck hg).read h3, ?_, h5⟩
  exact ⟨hg.os.trans h4.os, hg.tape.trans h4.tape, hg.output.trans h4.output, Nat.le_trans h4.size hg.size, fun k hk hne => (hg.block k (Nat.lt_of_lt_of_le hk h4.size) (fun e => by injection e with e; omega)).trans (h4.block k hk hne)⟩

set_option maxHeartbeats 800000 in
theorem q_grown_string {B gq c cap : Nat} (more : Nat) (xs : List ByteArray) {w : World} (hq : QRow w 60 B gq c cap (vals_string xs)) (hl : xs.length ≤ cap) (h1 : 1 ≤ cap) (hcap : cap + more ≤ 200000) :
    Calls Try.prog 21 #[.pointer (some ⟨gq, 0, none⟩), .int .i64 more] w fun e w' => ∃ gq2 c2, e = .returned (.tuple #[.pointer (some ⟨gq2, 0, none⟩), .int .i64 0]) ∧ QRow w' 60 B gq2 c2 (cap + more) (vals_string xs) ∧ QRow w' 60 B gq c cap [] ∧ w.grownBy w' (some c) := by
  have HQ := Lib.hid hq
  have m0 : (0 : Int) ≤ more := by omega
  have m1 : (more : Int) ≤ 200000 := by omega
  have m2 : (cap : Int) + more ≤ 200000 := by omega
  have m3 : (1 : Int) ≤ cap := by omega
  clear hq
  go_enter Try.func21, Try.ntmps21
  go_wp2_with fail
  refine (q_room_string HQ.out (by omega) (by rw [vals_len_string]; omega)).mono ?_
  rintro e w1 ⟨rfl, rfl⟩
  go_wp2_with fail
  have e1 : ((cap : Int) + more) = ((cap + more : Nat) : Int) := by omega
  rw [e1]
  refine (q_new_string (cap + more) (by omega) hcap _).mono ?_
  rintro e w2 ⟨gq2, c2, rfl, hq2, hb2⟩
  have HQ2 := Lib.hid (hq2.mono (B' := B) (Nat.le_of_lt (Nat.lt_of_le_of_lt HQ.out.Bc HQ.out.clt)))
  have HC2 := Lib.hid (show w.heap.size ≤ c2 from hq2.Bc)
  have HQ := Lib.hid (show QRow w 60 B gq c cap (vals_string xs) from HQ.out)
  have HQ1 := Lib.hid (HQ.out.below hb2)
  have HB2 := Lib.hid hb2
  clear hq2 hb2 e1
  go_wp2_with fail
  refine (q_drain_string xs HQ1.out (by omega)).mono ?_
  rintro e w3 ⟨v, rfl, ho3, hq3, hg3⟩
  obtain ⟨p, cp, rfl⟩ := own_shape' ho3
  have HC0 := Lib.hid HQ.out.clt
  have HI0 := Lib.hid (show GrInv_string w B gq c gq2 c2 cap (cap + more) xs (.slice p xs.length cp) 0 w3 from ⟨HQ2.out.other HQ1.out hg3 (by have := HC2.out; have := HC0.out; omega), hq3, readRow_own ho3, ⟨hg3.os.trans HB2.out.os, hg3.tape.trans HB2.out.tape, hg3.output.trans HB2.out.output, Nat.le_trans HB2.out.size hg3.size, fun k hk hne => (hg3.block k (Nat.lt_of_lt_of_le hk HB2.out.size) hne).trans (HB2.out.block k hk)⟩, HC2.out⟩)
  have HR := Lib.hid (fun j (hj : j < xs.length) => show ∃ g' cap', p = some ⟨g', 0, none⟩ ∧ cp = cap' ∧ xs.length ≤ cap' from by
    obtain ⟨g', c', hv, _, _, h4, _⟩ := own_open ho3 (by omega)
    injection hv with e1 e2 e3
    exact ⟨g', c', e1, e3, h4⟩)
  clear ho3 hq3 hg3 HQ HQ1 HQ2 HB2
  go_wp2_with fail
  go_loopw [30] (fun i wr => ∃ k : Nat, k ≤ xs.length ∧ i = .int .i64 k ∧ GrInv_string w B gq c gq2 c2 cap (cap + more) xs (.slice p xs.length cp) k wr) (fun i _ => xs.length - (intOf i).toNat)
  case atStart => exact ⟨0, by omega, rfl, HI0.out⟩
  case round =>
    obtain ⟨k, hk, rfl, hi⟩ := hrel
    have HI := Lib.hid hi
    clear hi HI0
    by_cases hlt : k < xs.length
    · have hcell : ∃ g off, p = some ⟨g, off, none⟩ ∧ wr.cell? ⟨g, off + k, none⟩ = some (Value.string xs[k]) := by
        obtain ⟨_, ⟨h2, h0⟩ | ⟨g, off, c', hv, _, _, hc⟩⟩ := HI.out.2.2.1
        · omega
        · injection hv with e1 e2 e3
          exact ⟨g, off, e1, by rw [hc k hlt]; simp [vals_string, hlt]⟩
      obtain ⟨g, off, rfl, hcell⟩ := hcell
      obtain ⟨x, hx⟩ : ∃ x, xs[k] = x := ⟨_, rfl⟩
      rw [hx] at hcell
      have HX := Lib.hid hx
      clear hx
      go_wp2_with fail
      refine (q_put_string x HI.out.1 (by rw [vals_len_string, List.length_take]; omega)).mono ?_
      rintro e w4 ⟨rfl, hq4, hg4⟩
      have HN := Lib.hid (grInv_step_string hlt HC0.out HI.out (by rw [HX.out]; exact hq4) hg4)
      clear hq4 hg4 hcell
      go_wp2
      go_roundw
      case rel => exact ⟨k + 1, by omega, by go_num, HN.out⟩
      case measure => simp [intOf]; omega
    · obtain rfl : k = xs.length := by omega
      have hi := HI.out
      have hq := hi.1
      rw [List.take_length] at hq
      have HA := Lib.hid hq
      have HB := Lib.hid hi.2.1
      have HG := Lib.hid hi.2.2.2.1
      clear hi hq hlt HI
      go_wp2
      go_ret2
      exact ⟨_, _, rfl, HA.out, HB.out, HG.out⟩

theorem q_grown_no_string {B gq c cap : Nat} (more : Int) {vs : List Value} {w : World} (hq : QRow w 60 B gq c cap vs) (hl : vs.length ≤ 1000000) (h1 : 1 ≤ cap) (hcap : cap ≤ 200000) (h : more < 0 ∨ 200000 - cap < more) :
    Calls Try.prog 21 #[.pointer (some ⟨gq, 0, none⟩), .int .i64 more] w fun e w' => e = .returned (.tuple #[.pointer none, .int .i64 1]) ∧ w = w' := by
  have HQ := Lib.hid hq
  have m3 : (1 : Int) ≤ cap := by omega
  have m4 : (cap : Int) ≤ 200000 := by omega
  clear hq
  by_cases c1 : more < 0
  · clear h
    go_enter Try.func21, Try.ntmps21
    go_wp2
    go_ret2
    exact ⟨rfl, rfl⟩
  by_cases c2 : 200000 < more
  · clear h
    go_enter Try.func21, Try.ntmps21
    go_wp2
    go_ret2
    exact ⟨rfl, rfl⟩
  · have m5 : 200000 < (cap : Int) + more := by omega
    have m6 : (cap : Int) + more ≤ 400000 := by omega
    clear h
    go_enter Try.func21, Try.ntmps21
    go_wp2_with fail
    refine (q_room_string HQ.out (by omega) hl).mono ?_
    rintro e w1 ⟨rfl, rfl⟩
    go_wp2_with fail
    refine (q_new_no_string _ (.inr m5) _).mono ?_
    rintro e w2 ⟨rfl, rfl⟩
    go_wp2
    go_ret2
    exact ⟨rfl, rfl⟩

end Go.Proofs.Ytckejjpillcdgaa
