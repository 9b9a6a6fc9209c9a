/- The contract of Access. -/
import Derived.Test.YtikflhigenijdaaRegsWalk
import Derived.Test.YtikflhigenijdaaInstrAt
namespace Go.Proofs.Ytikflhigenijdaa
open Go.RowKit

theorem access_any (op d n m imm kind : Int) (w : World) :
    Calls Try.prog 20 #[instrV op d n m imm kind] w fun e w' => e = .returned (.bool (loadB op || storeB op)) ∧ Below w.heap.size w w' := by
  have I0 := InstrAt.new w 42 op d n m imm kind
  cases hl : loadB op
  · go_enter Try.func20, Try.ntmps20
    go_wp2_with fail
    refine (load_any _ _ _ _ _ _ _).mono ?_
    rintro e w1 ⟨rfl, hb⟩
    have I1 := I0.below hb
    have hB := below_trans (below_alloc (Below.refl _ _) _) hb
    clear hb I0
    obtain ⟨c0, c1, c2, c3, c4, c5⟩ := I1.cells
    go_wp2_with (go_at_call 30; refine (store_any _ _ _ _ _ _ _).mono ?_; rintro e w2 ⟨rfl, hb2⟩)
    go_ret
    exact ⟨ret_bool (by simp), below_trans hB hb2⟩
  · go_enter Try.func20, Try.ntmps20
    go_wp2_with (go_at_call 28; refine (load_any _ _ _ _ _ _ _).mono ?_; rintro e w1 ⟨rfl, hb⟩)
    go_ret
    exact ⟨ret_bool (by simp), below_trans (below_alloc (Below.refl _ _) _) hb⟩

end Go.Proofs.Ytikflhigenijdaa
