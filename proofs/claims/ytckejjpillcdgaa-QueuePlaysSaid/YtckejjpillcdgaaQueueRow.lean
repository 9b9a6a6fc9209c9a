/- A row (queue), known whole: its calls. -/
import Derived.Test.YtckejjpillcdgaaQueueComm
import Derived.Conc.SmallLaws
namespace Go.Proofs.Ytckejjpillcdgaa
open Go.Conc Go.RowKit
set_option linter.unusedVariables false

/-- Every block of cells is as it was. -/
def CK (w w' : World) : Prop := ∀ (k : Nat) (cs : Array Value) (t : TypeId) (fr : Nat × Nat), w.heap[k]? = some (Obj.cells cs t fr) → w'.heap[k]? = some (Obj.cells cs t fr)
theorem CK.refl (w : World) : CK w w := fun _ _ _ _ h => h
theorem CK.trans {a b c : World} (h : CK a b) (k : CK b c) : CK a c := fun i cs t fr hi => k _ _ _ _ (h _ _ _ _ hi)
theorem CK.below {w w' : World} (h : Below w.heap.size w w') : CK w w' := fun k cs t fr hk => (h.block k (Array.getElem?_eq_some_iff.1 hk).1).trans hk
theorem CK.dn (w : World) (n : Nat) : CK w (w.drewN n) := fun _ _ _ _ h => h
theorem CK.blk {w w' : World} {T : TypeId} {g : Nat} {cs : List Value} (h : CK w w') (hb : Blk w T g cs) : Blk w' T g cs := h _ _ _ _ hb
theorem CK.cell {w w' : World} {p : Addr} {v : Value} (h : CK w w') (hc : w.cell? p = some v) : w'.cell? p = some v := by
  unfold World.cell? at hc ⊢
  split at hc
  · rename_i c t fr hk; rw [h _ _ _ _ hk]; exact hc
  · cases hc
theorem CK.own {w w' : World} {base : Nat} {e : TypeId} {size : Nat} {v : Value} {n : Nat} {xs : List Value} (h : CK w w') (ho : w.ownsRow base e size v n xs) : w'.ownsRow base e size v n xs := by
  obtain ⟨h1, h2 | ⟨g, cap, cur, hv, hb, hg, r⟩⟩ := ho
  · exact ⟨h1, .inl h2⟩
  · exact ⟨h1, .inr ⟨g, cap, cur, hv, hb, h _ _ _ _ hg, r⟩⟩
theorem CK.read {w w' : World} {v : Value} {n : Nat} {xs : List Value} (h : CK w w') (hr : readRow w v n xs) : readRow w' v n xs := by
  obtain ⟨hl, h2 | ⟨g, off, cap, hv, h3, h4, hc⟩⟩ := hr
  · exact ⟨hl, .inl h2⟩
  · refine ⟨hl, .inr ⟨g, off, cap, hv, h3, h4, fun j hj => ?_⟩⟩
    have h5 := hc j hj
    rw [List.getElem?_eq_getElem (show j < xs.length by omega)] at h5 ⊢
    exact h.cell h5

/-- A row with these things in it, and room for so many; its channel is block c. -/
def QRow (w : World) (T : TypeId) (B gq c cap : Nat) (vs : List Value) : Prop :=
  ∃ s r, B ≤ gq ∧ B ≤ c ∧ Blk w T gq [.chan (some c)] ∧ w.heap[c]? = some (.chan cap vs.toArray false s r false)
section
variable {w w' : World} {T : TypeId} {B gq c cap : Nat} {vs : List Value}
theorem QRow.lt (h : QRow w T B gq c cap vs) : gq < w.heap.size := by obtain ⟨s, r, _, _, hb, _⟩ := h; exact hb.lt
theorem QRow.clt (h : QRow w T B gq c cap vs) : c < w.heap.size := by obtain ⟨s, r, _, _, _, hb⟩ := h; exact (Array.getElem?_eq_some_iff.1 hb).1
theorem QRow.Bc (h : QRow w T B gq c cap vs) : B ≤ c := by obtain ⟨s, r, _, h, _⟩ := h; exact h
theorem QRow.below (h : QRow w T B gq c cap vs) (hb : Below w.heap.size w w') : QRow w' T B gq c cap vs := by
  obtain ⟨s, r, h1, h2, h3, h4⟩ := h
  exact ⟨s, r, h1, h2, h3.below hb, (hb.block c (Array.getElem?_eq_some_iff.1 h4).1).trans h4⟩
theorem QRow.dn (h : QRow w T B gq c cap vs) (n : Nat) : QRow (w.drewN n) T B gq c cap vs := h
theorem QRow.mono {B' : Nat} (h : QRow w T B gq c cap vs) (hB : B' ≤ B) : QRow w T B' gq c cap vs := by
  obtain ⟨s, r, h1, h2, h3⟩ := h
  exact ⟨s, r, by omega, by omega, h3⟩
theorem QRow.kept {row : Option Nat} (h : QRow w T B gq c cap vs) (hg : w.grownBy w' row) (hrow : ∀ k, row = some k → ∃ (cs : Array Value) (t : TypeId) (fr : Nat × Nat), w.heap[k]? = some (Obj.cells cs t fr) ∧ t ≠ T) : QRow w' T B gq c cap vs := by
  obtain ⟨s, r, h1, h2, h3, h4⟩ := h
  refine ⟨s, r, h1, h2, h3.kept hg (fun e => ?_), (hg.block c (Array.getElem?_eq_some_iff.1 h4).1 (fun e => ?_)).trans h4⟩
  · obtain ⟨cs, t, fr, hk, hne⟩ := hrow gq e.symm
    unfold Blk at h3
    rw [h3] at hk
    injection hk with hk
    injection hk with _ hk
    exact hne hk.symm
  · obtain ⟨cs, t, fr, hk, hne⟩ := hrow c e.symm
    rw [h4] at hk
    injection hk with hk
    cases hk
theorem own_row_cells {base : Nat} {e : TypeId} {size : Nat} {v : Value} {n : Nat} {xs : List Value} (ho : w.ownsRow base e size v n xs) (hne : e ≠ T) : ∀ k, v.ownBlock = some k → ∃ (cs : Array Value) (t : TypeId) (fr : Nat × Nat), w.heap[k]? = some (Obj.cells cs t fr) ∧ t ≠ T := by
  intro k hk
  obtain ⟨_, ⟨rfl, _⟩ | ⟨g, cap, cur, rfl, _, hg, _⟩⟩ := ho
  · simp [Value.ownBlock] at hk
  · have : g = k := by simpa [Value.ownBlock] using hk
    subst this
    exact ⟨_, _, _, hg, hne⟩
/-- Only the row's channel has changed. -/
theorem QRow.ck (h : QRow w T B gq c cap vs) (hg : w.grownBy w' (some c)) : CK w w' := by
  obtain ⟨s, r, h1, h2, h3, h4⟩ := h
  intro k cs t fr hk
  have hne : some k ≠ some c := by
    intro e
    injection e with e
    subst e
    rw [h4] at hk
    injection hk with hk
    cases hk
  exact (hg.block k (Array.getElem?_eq_some_iff.1 hk).1 hne).trans hk
theorem QRow.belowB (h : QRow w T B gq c cap vs) (hg : w.grownBy w' (some c)) : Below B w w' :=
  (Below.refl B w).grown hg (Nat.le_of_lt (Nat.lt_of_le_of_lt h.Bc h.clt)) (fun k hk => by injection hk with hk; subst hk; exact h.Bc)
theorem QRow.other {gq' c' cap' : Nat} {vs' : List Value} {T' : TypeId} {B' : Nat} (h' : QRow w T' B' gq' c' cap' vs') (h : QRow w T B gq c cap vs) (hg : w.grownBy w' (some c)) (hne : c' ≠ c) : QRow w' T' B' gq' c' cap' vs' := by
  have hck := h.ck hg
  obtain ⟨s, r, h1, h2, h3, h4⟩ := h'
  exact ⟨s, r, h1, h2, hck.blk h3, (hg.block c' (Array.getElem?_eq_some_iff.1 h4).1 (fun e => hne (by injection e))).trans h4⟩
theorem grown_chan (w : World) (c cap : Nat) (buf : Array Value) (cl : Bool) (s r : Nat) (tm : Bool) : w.grownBy (w.setChan c cap buf cl s r tm) (some c) :=
  ⟨rfl, rfl, rfl, by simp [World.setChan], fun k _ hne => by
    show (w.heap.setIfInBounds c _)[k]? = _
    rw [Array.getElem?_setIfInBounds_ne (fun e => hne (by rw [e]))]⟩
theorem QRow.chanSet {s r s' r' : Nat} {vs' : List Value} (hq : Blk w T gq [.chan (some c)]) (hc : w.heap[c]? = some (.chan cap vs.toArray false s r false)) (h1 : B ≤ gq) (h2 : B ≤ c) :
    QRow (w.setChan c cap vs'.toArray false s' r' false) T B gq c cap vs' ∧ w.grownBy (w.setChan c cap vs'.toArray false s' r' false) (some c) :=
  ⟨⟨s', r', h1, h2, (show QRow w T B gq c cap vs from ⟨s, r, h1, h2, hq, hc⟩).ck (grown_chan _ _ _ _ _ _ _ _) |>.blk hq, heap_setChan _ _ _ _ _ _ _ _ (Array.getElem?_eq_some_iff.1 hc).1⟩, grown_chan _ _ _ _ _ _ _ _⟩
end

theorem el_int : El Try.prog 22 3 (.int .i64 0) 1 8 := ⟨Try.underlying22, by kernel_rfl⟩
theorem q_put_int (x : Int) {B gq c cap : Nat} {vs : List Value} {w : World} (hq : QRow w 57 B gq c cap vs) (hroom : vs.length < cap) :
    Calls Try.prog 8 #[.pointer (some ⟨gq, 0, none⟩), .int .i64 x] w fun e w' => e = .returned (.bool true) ∧ QRow w' 57 B gq c cap (vs ++ [(.int .i64 x : Value)]) ∧ w.grownBy w' (some c) := by
  obtain ⟨s, r, h1, h2, h3, h4⟩ := hq
  refine (put_room_int x h3 h4 (by simpa using hroom)).mono ?_
  rintro e w' ⟨rfl, rfl⟩
  have e1 : vs.toArray.push (.int .i64 x : Value) = (vs ++ [(.int .i64 x : Value)]).toArray := by simp
  rw [e1]
  exact ⟨rfl, QRow.chanSet h3 h4 h1 h2⟩
theorem q_full_int (x : Int) {B gq c cap : Nat} {vs : List Value} {w : World} (hq : QRow w 57 B gq c cap vs) (hfull : cap ≤ vs.length) :
    Calls Try.prog 8 #[.pointer (some ⟨gq, 0, none⟩), .int .i64 x] w fun e w' => e = .returned (.bool false) ∧ w = w' := by
  obtain ⟨s, r, h1, h2, h3, h4⟩ := hq
  exact put_full_int x h3 h4 (by simpa using hfull)
theorem q_take_int (x : Int) {B gq c cap : Nat} {rest : List Value} {w : World} (hq : QRow w 57 B gq c cap ((.int .i64 x : Value) :: rest)) :
    Calls Try.prog 9 #[.pointer (some ⟨gq, 0, none⟩)] w fun e w' => e = .returned (.tuple #[.int .i64 x, .bool true]) ∧ QRow w' 57 B gq c cap rest ∧ w.grownBy w' (some c) := by
  obtain ⟨s, r, h1, h2, h3, h4⟩ := hq
  refine (take_some_int x h3 h4).mono ?_
  rintro e w' ⟨rfl, rfl⟩
  exact ⟨rfl, QRow.chanSet h3 h4 h1 h2⟩
theorem q_none_int {B gq c cap : Nat} {w : World} (hq : QRow w 57 B gq c cap []) :
    Calls Try.prog 9 #[.pointer (some ⟨gq, 0, none⟩)] w fun e w' => e = .returned (.tuple #[.int .i64 0, .bool false]) ∧ w = w' := by
  obtain ⟨s, r, h1, h2, h3, h4⟩ := hq
  exact take_none_int h3 h4
theorem q_len_int {B gq c cap : Nat} {vs : List Value} {w : World} (hq : QRow w 57 B gq c cap vs) (hcap : cap ≤ 1000000) (hl : vs.length ≤ 1000000) :
    Calls Try.prog 15 #[.pointer (some ⟨gq, 0, none⟩)] w fun e w' => e = .returned (.int .i64 (vs.length : Nat)) ∧ w = w' := by
  obtain ⟨s, r, h1, h2, h3, h4⟩ := hq
  have := len_any_int h3 h4 hcap (by simpa using hl)
  simpa using this
theorem q_room_int {B gq c cap : Nat} {vs : List Value} {w : World} (hq : QRow w 57 B gq c cap vs) (hcap : cap ≤ 1000000) (hl : vs.length ≤ 1000000) :
    Calls Try.prog 23 #[.pointer (some ⟨gq, 0, none⟩)] w fun e w' => e = .returned (.int .i64 (cap : Nat)) ∧ w = w' := by
  obtain ⟨s, r, h1, h2, h3, h4⟩ := hq
  exact room_any_int h3 h4 hcap (by simpa using hl)

theorem mk_chan_int (n : Nat) (hn : n ≤ 200000) (w : World) : (Instr.makeChan 55 (.int .i64 n)).run Try.prog w = .ok (.chan (some w.heap.size)) (w.alloc (.chan n #[] false 0 0 false)) := by
  have h : (Try.prog.info? 3).map (·.bytes) = some 8 := by kernel_rfl
  obtain ⟨i, hi, hb⟩ := Option.map_eq_some_iff.1 h
  exact run_makeChan (P := Try.prog) (w := w) Try.underlying55 hi .i64 n (by omega) (by rw [hb]; omega)
theorem q_new_int (n : Nat) (h1 : 1 ≤ n) (hn : n ≤ 200000) (w : World) :
    Calls Try.prog 7 #[.int .i64 n] w fun e w' => ∃ gq c, e = .returned (.tuple #[.pointer (some ⟨gq, 0, none⟩), .int .i64 0]) ∧ QRow w' 57 w.heap.size gq c n [] ∧ Below w.heap.size w w' := by
  have hmk := mk_chan_int n hn
  have g1 : (1 : Int) ≤ n := by omega
  have g2 : (n : Int) ≤ 200000 := by omega
  have HC := Lib.hid (heap_alloc_new w (.chan n #[] false 0 0 false))
  go_enter Try.func7, Try.ntmps7
  go_wp2
  go_ret2
  have hb := Blk.new (w.alloc (.chan n #[] false 0 0 false)) 57 [.chan (some w.heap.size)]
  exact ⟨_, w.heap.size, rfl, ⟨0, 0, by simp, Nat.le_refl _, by simpa using hb, (Below.heap_alloc _ _ _ (by simp)).trans HC.out⟩, below_alloc (below_alloc (Below.refl _ _) _) _⟩
theorem q_new_no_int (n : Int) (h : n < 1 ∨ 200000 < n) (w : World) :
    Calls Try.prog 7 #[.int .i64 n] w fun e w' => e = .returned (.tuple #[.pointer none, .int .i64 1]) ∧ w = w' := by
  by_cases h1 : n < 1
  · clear h
    go_enter Try.func7, Try.ntmps7
    go_wp2
    go_ret2
    exact ⟨rfl, rfl⟩
  · have h2 : 200000 < n := by omega
    clear h
    go_enter Try.func7, Try.ntmps7
    go_wp2
    go_ret2
    exact ⟨rfl, rfl⟩

theorem el_string : El Try.prog 61 9 (.string ⟨#[]⟩) 1 16 := ⟨Try.underlying61, by kernel_rfl⟩
theorem q_put_string (x : ByteArray) {B gq c cap : Nat} {vs : List Value} {w : World} (hq : QRow w 60 B gq c cap vs) (hroom : vs.length < cap) :
    Calls Try.prog 20 #[.pointer (some ⟨gq, 0, none⟩), .string x] w fun e w' => e = .returned (.bool true) ∧ QRow w' 60 B gq c cap (vs ++ [(.string x : Value)]) ∧ w.grownBy w' (some c) := by
  obtain ⟨s, r, h1, h2, h3, h4⟩ := hq
  refine (put_room_string x h3 h4 (by simpa using hroom)).mono ?_
  rintro e w' ⟨rfl, rfl⟩
  have e1 : vs.toArray.push (.string x : Value) = (vs ++ [(.string x : Value)]).toArray := by simp
  rw [e1]
  exact ⟨rfl, QRow.chanSet h3 h4 h1 h2⟩
theorem q_full_string (x : ByteArray) {B gq c cap : Nat} {vs : List Value} {w : World} (hq : QRow w 60 B gq c cap vs) (hfull : cap ≤ vs.length) :
    Calls Try.prog 20 #[.pointer (some ⟨gq, 0, none⟩), .string x] w fun e w' => e = .returned (.bool false) ∧ w = w' := by
  obtain ⟨s, r, h1, h2, h3, h4⟩ := hq
  exact put_full_string x h3 h4 (by simpa using hfull)
theorem q_take_string (x : ByteArray) {B gq c cap : Nat} {rest : List Value} {w : World} (hq : QRow w 60 B gq c cap ((.string x : Value) :: rest)) :
    Calls Try.prog 22 #[.pointer (some ⟨gq, 0, none⟩)] w fun e w' => e = .returned (.tuple #[.string x, .bool true]) ∧ QRow w' 60 B gq c cap rest ∧ w.grownBy w' (some c) := by
  obtain ⟨s, r, h1, h2, h3, h4⟩ := hq
  refine (take_some_string x h3 h4).mono ?_
  rintro e w' ⟨rfl, rfl⟩
  exact ⟨rfl, QRow.chanSet h3 h4 h1 h2⟩
theorem q_none_string {B gq c cap : Nat} {w : World} (hq : QRow w 60 B gq c cap []) :
    Calls Try.prog 22 #[.pointer (some ⟨gq, 0, none⟩)] w fun e w' => e = .returned (.tuple #[.string ⟨#[]⟩, .bool false]) ∧ w = w' := by
  obtain ⟨s, r, h1, h2, h3, h4⟩ := hq
  exact take_none_string h3 h4
theorem q_len_string {B gq c cap : Nat} {vs : List Value} {w : World} (hq : QRow w 60 B gq c cap vs) (hcap : cap ≤ 1000000) (hl : vs.length ≤ 1000000) :
    Calls Try.prog 19 #[.pointer (some ⟨gq, 0, none⟩)] w fun e w' => e = .returned (.int .i64 (vs.length : Nat)) ∧ w = w' := by
  obtain ⟨s, r, h1, h2, h3, h4⟩ := hq
  have := len_any_string h3 h4 hcap (by simpa using hl)
  simpa using this
theorem q_room_string {B gq c cap : Nat} {vs : List Value} {w : World} (hq : QRow w 60 B gq c cap vs) (hcap : cap ≤ 1000000) (hl : vs.length ≤ 1000000) :
    Calls Try.prog 18 #[.pointer (some ⟨gq, 0, none⟩)] w fun e w' => e = .returned (.int .i64 (cap : Nat)) ∧ w = w' := by
  obtain ⟨s, r, h1, h2, h3, h4⟩ := hq
  exact room_any_string h3 h4 hcap (by simpa using hl)

theorem mk_chan_string (n : Nat) (hn : n ≤ 200000) (w : World) : (Instr.makeChan 58 (.int .i64 n)).run Try.prog w = .ok (.chan (some w.heap.size)) (w.alloc (.chan n #[] false 0 0 false)) := by
  have h : (Try.prog.info? 9).map (·.bytes) = some 16 := by kernel_rfl
  obtain ⟨i, hi, hb⟩ := Option.map_eq_some_iff.1 h
  exact run_makeChan (P := Try.prog) (w := w) Try.underlying58 hi .i64 n (by omega) (by rw [hb]; omega)
theorem q_new_string (n : Nat) (h1 : 1 ≤ n) (hn : n ≤ 200000) (w : World) :
    Calls Try.prog 17 #[.int .i64 n] w fun e w' => ∃ gq c, e = .returned (.tuple #[.pointer (some ⟨gq, 0, none⟩), .int .i64 0]) ∧ QRow w' 60 w.heap.size gq c n [] ∧ Below w.heap.size w w' := by
  have hmk := mk_chan_string n hn
  have g1 : (1 : Int) ≤ n := by omega
  have g2 : (n : Int) ≤ 200000 := by omega
  have HC := Lib.hid (heap_alloc_new w (.chan n #[] false 0 0 false))
  go_enter Try.func17, Try.ntmps17
  go_wp2
  go_ret2
  have hb := Blk.new (w.alloc (.chan n #[] false 0 0 false)) 60 [.chan (some w.heap.size)]
  exact ⟨_, w.heap.size, rfl, ⟨0, 0, by simp, Nat.le_refl _, by simpa using hb, (Below.heap_alloc _ _ _ (by simp)).trans HC.out⟩, below_alloc (below_alloc (Below.refl _ _) _) _⟩
theorem q_new_no_string (n : Int) (h : n < 1 ∨ 200000 < n) (w : World) :
    Calls Try.prog 17 #[.int .i64 n] w fun e w' => e = .returned (.tuple #[.pointer none, .int .i64 1]) ∧ w = w' := by
  by_cases h1 : n < 1
  · clear h
    go_enter Try.func17, Try.ntmps17
    go_wp2
    go_ret2
    exact ⟨rfl, rfl⟩
  · have h2 : 200000 < n := by omega
    clear h
    go_enter Try.func17, Try.ntmps17
    go_wp2
    go_ret2
    exact ⟨rfl, rfl⟩

end Go.Proofs.Ytckejjpillcdgaa
