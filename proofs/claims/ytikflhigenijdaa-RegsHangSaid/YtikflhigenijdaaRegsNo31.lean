/- The contract of no31 of granuleref05. -/
import Derived.Test.YtikflhigenijdaaRegsLists
namespace Go.Proofs.Ytikflhigenijdaa
open Go.RowKit

def no31L (l : List Int) : List Int := l.foldl addL []
theorem own_shape {w : World} {base : Nat} {e : TypeId} {size : Nat} {v : Value} {n : Nat} {xs : List Value} (h : w.ownsRow base e size v n xs) : ∃ p c, v = .slice p n c := by
  obtain ⟨_, ⟨rfl, rfl⟩ | ⟨g, cap, cur, rfl, _⟩⟩ := h
  · exact ⟨_, _, rfl⟩
  · exact ⟨_, _, rfl⟩
theorem own_cells {w : World} {base : Nat} {e : TypeId} {p : Option Addr} {c : Nat} {l : List Int} (h : w.ownsRow base e 1 (.slice p l.length c) l.length (intsZ l)) (j : Nat) (hj : j < l.length) :
    ∃ g, p = some ⟨g, 0, none⟩ ∧ l.length ≤ c ∧ c ≤ 9223372036854775807 ∧ w.cell? ⟨g, j, none⟩ = some (.int .i64 (l.getD j 0)) := by
  obtain ⟨g, cap', h1, _, _, h2, h3, hc, _⟩ := own_open h (by omega)
  injection h1 with e1 e2 e3
  subst e1 e3
  exact ⟨g, rfl, h2, h3, by rw [hc j hj, intsZ_at _ _ hj]⟩
theorem no31L_take (l : List Int) (k : Nat) (h : k < l.length) : no31L (l.take (k + 1)) = addL (no31L (l.take k)) (l.getD k 0) := by
  rw [List.take_succ_eq_append_getElem h]
  have : l.getD k 0 = l[k] := by simp [List.getD, List.getElem?_eq_getElem h]
  rw [this]
  unfold no31L; rw [List.foldl_append]; rfl
theorem foldl_addL_len (l : List Int) : ∀ a : List Int, (l.foldl addL a).length ≤ a.length + l.length := by
  induction l with
  | nil => intro a; simp
  | cons z l ih =>
    intro a
    have h1 := ih (addL a z)
    have h2 : (addL a z).length ≤ a.length + 1 := by unfold addL; split <;> simp
    simp only [List.foldl_cons, List.length_cons]; omega
theorem no31L_len (l : List Int) : (no31L l).length ≤ l.length := by have := foldl_addL_len l []; simpa [no31L] using this

def SeenTo (z : Int) (L : List Int) (j : Nat) (s : Bool) : Prop := s = true ↔ (z = 31 ∨ z ∈ L.take j)
theorem SeenTo.zero {z : Int} {L : List Int} : SeenTo z L 0 (z == 31) := by simp [SeenTo]
theorem SeenTo.skip {z : Int} {L : List Int} {j : Nat} (h : SeenTo z L j true) (hj : j < L.length) : SeenTo z L (j + 1) true := by
  have h1 := h.1 rfl
  refine ⟨fun _ => ?_, fun _ => rfl⟩
  rcases h1 with h1 | h1
  · exact .inl h1
  · rw [List.take_succ_eq_append_getElem hj]; exact .inr (List.mem_append_left _ h1)
theorem SeenTo.step {z : Int} {L : List Int} {j : Nat} (h : SeenTo z L j false) (hj : j < L.length) : SeenTo z L (j + 1) (L.getD j 0 == z) := by
  have h1 : ¬ (z = 31 ∨ z ∈ L.take j) := fun e => by have := h.2 e; cases this
  have e : L.getD j 0 = L[j] := by simp [List.getD, List.getElem?_eq_getElem hj]
  unfold SeenTo
  rw [e, beq_iff_eq, List.take_succ_eq_append_getElem hj]
  simp only [List.mem_append, List.mem_singleton]
  constructor
  · intro h2; exact .inr (.inr h2.symm)
  · rintro (h2 | h2 | h2)
    · exact (h1 (.inl h2)).elim
    · exact (h1 (.inr h2)).elim
    · exact h2.symm

set_option maxHeartbeats 800000 in
theorem no31_any (l : List Int) {g off len cap : Nat} {w : World} (hlen : len = l.length) (hl : len ≤ 1000) (hlc : len ≤ cap) (_hcap : cap ≤ 1000) (hg : g < w.heap.size)
    (hc : ∀ j, j < l.length → w.cell? ⟨g, off + j, none⟩ = some (.int .i64 (l.getD j 0))) :
    Calls Try.prog 41 #[.slice (some ⟨g, off, none⟩) len cap] w fun e w' =>
      ∃ v, e = .returned v ∧ w'.ownsRow w.heap.size 3 1 v (no31L l).length (intsZ (no31L l)) ∧ Below w.heap.size w w' := by
  subst hlen
  have HC := Lib.hid hc
  clear hc
  go_enter Try.func41, Try.ntmps41
  go_wp2_with fail
  go_loopw [4, 3] (fun i v wr => ∃ k : Nat, k ≤ l.length ∧ i = .int .i64 k ∧ wr.ownsRow w.heap.size 3 1 v (no31L (l.take k)).length (intsZ (no31L (l.take k))) ∧ Below w.heap.size w wr) (fun i _ _ => l.length - (intOf i).toNat)
  case atStart => exact ⟨0, Nat.zero_le _, rfl, World.ownsRow_nil _ _ _ _, Below.refl _ _⟩
  case round =>
    obtain ⟨k, hk, rfl, hown, hnx⟩ := hrel
    obtain ⟨wo, rfl⟩ : ∃ wo : World, wo = wr := ⟨_, rfl⟩
    obtain ⟨p, c, hvp⟩ := own_shape hown
    subst hvp
    by_cases hlt : k < l.length
    · have hck := (hnx.cell (p := ⟨g, off + k, none⟩) hg).trans (HC.out k hlt)
      have HS := Lib.hid (no31L_take l k hlt)
      have hL := no31L_len (l.take k)
      have hL2 : (l.take k).length = k := by rw [List.length_take]; omega
      rw [hL2] at hL
      generalize l.getD k 0 = z at *
      generalize no31L (l.take k) = L at *
      clear hL2
      have HO := Lib.hid hown
      clear hown
      go_wp2_with fail
      go_loopw [6, 5] (fun j s wi => ∃ (i m : Nat) (b : Bool), i ≤ L.length ∧ j = .int .i64 i ∧ s = .bool b ∧ SeenTo z L i b ∧ wi = wo.drewN m) (fun j _ _ => L.length - (intOf j).toNat)
      case atStart => exact ⟨0, 0, _, Nat.zero_le _, rfl, rfl, SeenTo.zero, rfl⟩
      case round =>
        obtain ⟨i, m, b, hi, rfl, rfl, hs, rfl⟩ := hrel
        have HSE := Lib.hid hs
        clear hs
        by_cases hil : i < L.length
        · obtain ⟨g', rfl, hc1, hc2, hcell⟩ := own_cells HO.out i hil
          cases b
          · have HX := Lib.hid (HSE.out.step hil)
            generalize L.getD i 0 = y at *
            have i0 : (0 : Int) ≤ (i : Int) := by omega
            have k0 : (0 : Int) ≤ (k : Int) := by omega
            go_wp2_with fail
            go_quiet (fail)
            go_wp2
            go_roundw
            case rel => exact ⟨i + 1, _, _, by omega, by go_num, rfl, HX.out, rfl⟩
            case measure => simp [intOf]; omega
          · have HX := Lib.hid (HSE.out.skip hil)
            clear hcell
            go_wp2_with fail
            go_quiet (fail)
            go_wp2
            go_roundw
            case rel => exact ⟨i + 1, _, _, by omega, by go_num, rfl, HX.out, rfl⟩
            case measure => simp [intOf]; omega
        · obtain rfl : i = L.length := by omega
          cases b
          · have HL : Hid (addL L z = L ++ [z]) := by
              show _ = _; unfold addL
              have h1 : ¬ (z = 31 ∨ z ∈ L.take L.length) := fun e => by have := HSE.out.2 e; cases this
              rw [List.take_length] at h1
              rw [if_neg h1]
            have hsz := hnx.size
            clear hil hi
            go_wp2_with (at_builtin; refine app1 rfl _ _ 47 rfl w.heap.size 3 (.int .i64 0) 8 elz rfl _ _ _ rfl HO.out _ rfl rfl ?c1 ?c2 ?c3 ?_)
            case c1 => unfold maxLen; omega
            case c2 => omega
            try (case c3 => exact hsz)
            intro v' w1 hown' _ hb1
            have HO' := Lib.hid hown'
            clear hown'
            go_wp2
            go_roundw
            case rel => exact ⟨k + 1, by omega, by go_num, by rw [HS.out, HL.out, intsZ_snoc, List.length_append]; exact HO'.out, (below_drewN hnx _).trans hb1⟩
            case measure => simp [intOf]; omega
          · have HL : Hid (addL L z = L) := by
              show _ = _; unfold addL
              have h1 := HSE.out.1 rfl
              rw [List.take_length] at h1
              rw [if_pos h1]
            clear hil hi
            go_wp2
            go_roundw
            case rel => exact ⟨k + 1, by omega, by go_num, by rw [HS.out, HL.out]; exact HO.out, below_drewN hnx _⟩
            case measure => simp [intOf]; omega
    · obtain rfl : k = l.length := by omega
      rw [List.take_length] at hown
      have HO := Lib.hid hown
      clear hown hlt hk
      rw [List.take_length]
      go_wp2
      go_ret
      exact ⟨_, rfl, HO.out, hnx⟩


theorem no31_1 (z : Int) (W : World) (T : TypeId) (g : Nat) (hg : g = W.heap.size) :
    Calls Try.prog 41 #[.slice (some ⟨g, 0, none⟩) 1 1] (W.alloc (.cells #[.int .i64 z] T)) fun e w' =>
      ∃ v, e = .returned v ∧ w'.ownsRow (W.alloc (.cells #[.int .i64 z] T)).heap.size 3 1 v (no31L [z]).length (intsZ (no31L [z])) ∧ Below (W.alloc (.cells #[.int .i64 z] T)).heap.size (W.alloc (.cells #[.int .i64 z] T)) w' :=
  no31_any [z] rfl (by omega) (Nat.le_refl _) (by omega) (by simp; omega) (lit_cells .i64 [z] W T g hg)
theorem no31_2 (y z : Int) (W : World) (T : TypeId) (g : Nat) (hg : g = W.heap.size) :
    Calls Try.prog 41 #[.slice (some ⟨g, 0, none⟩) 2 2] (W.alloc (.cells #[.int .i64 y, .int .i64 z] T)) fun e w' =>
      ∃ v, e = .returned v ∧ w'.ownsRow (W.alloc (.cells #[.int .i64 y, .int .i64 z] T)).heap.size 3 1 v (no31L [y, z]).length (intsZ (no31L [y, z])) ∧ Below (W.alloc (.cells #[.int .i64 y, .int .i64 z] T)).heap.size (W.alloc (.cells #[.int .i64 y, .int .i64 z] T)) w' :=
  no31_any [y, z] rfl (by omega) (Nat.le_refl _) (by omega) (by simp; omega) (lit_cells .i64 [y, z] W T g hg)

end Go.Proofs.Ytikflhigenijdaa
