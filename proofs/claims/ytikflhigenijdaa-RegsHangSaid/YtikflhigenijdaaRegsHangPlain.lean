/- What an instruction sets hangs on nothing but what it takes: plain. -/
import Derived.Test.YtikflhigenijdaaRegsDoAny
import Derived.Test.YtikflhigenijdaaInstrAt
namespace Go.Proofs.Ytikflhigenijdaa
open Go.RowKit

/-- Alike in the first j of l. -/
def Agree (xf xg : List Int) (sf sg : Bool) (l : List Int) (j : Nat) : Prop := ∀ z ∈ l.take j, (z ≠ 32 → getX xg z = getX xf z) ∧ (z = 32 → sg = sf)
theorem Agree.zero {xf xg : List Int} {sf sg : Bool} {l : List Int} : Agree xf xg sf sg l 0 := fun z hz => by simp at hz
theorem take_mem {l : List Int} {j : Nat} (hj : j < l.length) {z : Int} (hz : z ∈ l.take (j + 1)) : z ∈ l.take j ∨ z = l.getD j 0 := by
  rw [List.take_succ_eq_append_getElem hj, List.mem_append, List.mem_singleton] at hz
  rcases hz with h | h
  · exact .inl h
  · exact .inr (by rw [h]; simp [List.getD, List.getElem?_eq_getElem hj])
theorem getX_setX_eq {x : List Int} (hx : x.length = 31) (d v : Int) : getX (setX x d v) d = if 0 ≤ d ∧ d < 31 then v else 0 := by
  unfold getX setX
  by_cases h : 0 ≤ d ∧ d < 31
  · rw [if_pos h, if_pos h, if_pos h]
    have : d.toNat < x.length := by omega
    simp [List.getD, this]
  · rw [if_neg h, if_neg h]
theorem Agree.reg {xf xg : List Int} {sf sg : Bool} {l : List Int} {j : Nat} (h : Agree xf xg sf sg l j) (hj : j < l.length) (hx : xg.length = 31) {y : Int} (hy : l.getD j 0 = y) (h32 : (y == 32) = false) :
    Agree xf (setX xg y (getX xf y)) sf sg l (j + 1) := by
  intro z hz
  rcases take_mem hj hz with h1 | h1
  · obtain ⟨a, b⟩ := h z h1
    refine ⟨fun h2 => ?_, b⟩
    by_cases e : z = y
    · subst e
      rw [getX_setX_eq hx]
      split
      · rfl
      · rename_i hn; rw [getX_out _ _ hn]
    · rw [getX_setX_ne _ _ _ _ e]; exact a h2
  · rw [hy] at h1
    subst h1
    refine ⟨fun _ => ?_, fun e => absurd e (beq_eq_false_iff_ne.1 h32)⟩
    rw [getX_setX_eq hx]
    split
    · rfl
    · rename_i hn; rw [getX_out _ _ hn]
theorem Agree.flag {xf xg : List Int} {sf sg : Bool} {l : List Int} {j : Nat} (h : Agree xf xg sf sg l j) (hj : j < l.length) {y : Int} (hy : l.getD j 0 = y) (h32 : (y == 32) = true) :
    Agree xf xg sf sf l (j + 1) := by
  intro z hz
  rcases take_mem hj hz with h1 | h1
  · exact ⟨(h z h1).1, fun _ => rfl⟩
  · rw [hy] at h1
    exact ⟨fun e => absurd (h1.trans (beq_iff_eq.1 h32)) e, fun _ => rfl⟩

theorem Agree.at {xf xg : List Int} {sf sg : Bool} {l : List Int} {z : Int} (h : Agree xf xg sf sg l l.length) (hz : z ∈ l) : (z ≠ 32 → getX xg z = getX xf z) ∧ (z = 32 → sg = sf) :=
  h z (by rw [List.take_length]; exact hz)
theorem mem_addL {l : List Int} {n z : Int} (h : z ∈ l ∨ (z = n ∧ n ≠ 31)) : z ∈ addL l n := by
  unfold addL
  rcases h with h | ⟨rfl, h⟩
  · split
    · exact h
    · exact List.mem_append_left _ h
  · by_cases hl : z ∈ l
    · rw [if_pos (.inr hl)]; exact hl
    · rw [if_neg (by simp [h, hl])]; simp
theorem getX_at31 (x y : List Int) (z : Int) (hz : z = 31) : getX x z = getX y z := by subst hz; rw [getX_out _ _ (by omega), getX_out _ _ (by omega)]
/-- The registers that an instruction takes are alike. -/
theorem Agree.arg {xf xg : List Int} {sf sg : Bool} {op d n m z : Int} (h : Agree xf xg sf sg (dataL op d n m) (dataL op d n m).length) (hz : 0 ≤ z ∧ z ≤ 31)
    (hop : ((op = 15 ∨ op = 16) ∧ z = d) ∨ (op = 7 ∧ z = n) ∨ ((op = 8 ∨ op = 9 ∨ op = 10 ∨ op = 11 ∨ op = 12 ∨ op = 13) ∧ (z = n ∨ z = m))) : getX xg z = getX xf z := by
  by_cases h31 : z = 31
  · exact getX_at31 _ _ _ h31
  · refine (h.at ?_).1 (by omega)
    rcases hop with ⟨ho, rfl⟩ | ⟨rfl, rfl⟩ | ⟨ho, hzz⟩
    · unfold dataL; rw [if_pos (by omega)]; exact mem_addL (.inr ⟨rfl, h31⟩)
    · unfold dataL; rw [if_neg (by omega), if_pos rfl]; exact mem_addL (.inr ⟨rfl, h31⟩)
    · unfold dataL; rw [if_neg (by omega), if_neg (by omega), if_pos (by omega)]
      rcases hzz with rfl | rfl
      · exact mem_addL (.inl (mem_addL (.inr ⟨rfl, h31⟩)))
      · exact mem_addL (.inr ⟨rfl, h31⟩)
theorem Agree.sameFlag {xf xg : List Int} {sf sg : Bool} {op d n m : Int} (h : Agree xf xg sf sg (dataL op d n m) (dataL op d n m).length) (hop : op = 17) : sg = sf := by
  subst hop
  exact (h.at (z := 32) (by simp [dataL])).2 rfl

theorem taken_agree {xf xg : List Int} {sf sg : Bool} {op d n m kind : Int} (h : Agree xf xg sf sg (dataL op d n m) (dataL op d n m).length) (hd : 0 ≤ d ∧ d ≤ 31) : takenB op (getX xg d) kind sg = takenB op (getX xf d) kind sf := by
  unfold takenB
  by_cases h14 : op = 14
  · rw [if_pos h14, if_pos h14]
  rw [if_neg h14, if_neg h14]
  by_cases h15 : op = 15
  · rw [if_pos h15, if_pos h15, h.arg hd (.inl ⟨.inl h15, rfl⟩)]
  rw [if_neg h15, if_neg h15]
  by_cases h16 : op = 16
  · rw [if_pos h16, if_pos h16, h.arg hd (.inl ⟨.inr h16, rfl⟩)]
  rw [if_neg h16, if_neg h16]
  by_cases h17 : op = 17
  · rw [if_pos h17, if_pos h17, h.sameFlag h17]
  rw [if_neg h17, if_neg h17]

theorem val_agree {xf xg : List Int} {sf sg : Bool} {op d n m imm kind : Int} {sys : List Int} (h : Agree xf xg sf sg (dataL op d n m) (dataL op d n m).length) (hn : 0 ≤ n ∧ n ≤ 31) (hm : 0 ≤ m ∧ m ≤ 31) (hdo : doesB op = true) :
    valZ op (getX xg n) (getX xg m) imm kind sys = valZ op (getX xf n) (getX xf m) imm kind sys := by
  simp only [doesB, Bool.or_eq_true, beq_iff_eq] at hdo
  by_cases h6 : op = 6
  · simp [valZ, h6]
  by_cases h23 : op = 23
  · simp [valZ, h23]
  have en : getX xg n = getX xf n := h.arg hn (by omega)
  by_cases h7 : op = 7
  · simp [valZ, h7, en]
  · have em : getX xg m = getX xf m := h.arg hm (by omega)
    rw [en, em]
theorem do_agree {xf xg : List Int} {sf sg : Bool} {op d n m imm kind : Int} {sys : List Int} (h : Agree xf xg sf sg (dataL op d n m) (dataL op d n m).length) (hxf : xf.length = 31) (hxg : xg.length = 31) (hd : 0 ≤ d ∧ d ≤ 31) (hn : 0 ≤ n ∧ n ≤ 31) (hm : 0 ≤ m ∧ m ≤ 31) (hacc : loadB op = false)
    {z : Int} (hz : z ∈ setsL op d) : (z ≠ 32 → getX (doX op d n m imm kind sys xg) z = getX (doX op d n m imm kind sys xf) z) ∧ (z = 32 → doS op n m xg sg = doS op n m xf sf) := by
  have hdo : doesB op = true := by
    simp only [loadB, Bool.or_eq_false_iff, beq_eq_false_iff_ne] at hacc
    simp only [doesB, Bool.or_eq_true, beq_iff_eq]
    unfold setsL at hz
    split at hz
    · omega
    · split at hz
      · omega
      · cases hz
  constructor
  · intro h32
    have hzd : z = d := by
      unfold setsL at hz
      split at hz
      · exact ((mem_addL_nil d z).1 hz).1
      · split at hz
        · rcases List.mem_append.1 hz with h1 | h1
          · exact ((mem_addL_nil d z).1 h1).1
          · simp at h1; exact absurd h1 h32
        · cases hz
    subst hzd
    unfold doX
    rw [if_pos hdo, if_pos hdo, getX_setX_eq hxg, getX_setX_eq hxf, val_agree h hn hm hdo]
  · intro h32
    subst h32
    have h13 : op = 13 := by
      unfold setsL at hz
      split at hz
      · have := ((mem_addL_nil d 32).1 hz).1; omega
      · split at hz
        · assumption
        · cases hz
    have en : getX xg n = getX xf n := h.arg hn (by omega)
    have em : getX xg m = getX xf m := h.arg hm (by omega)
    unfold doS
    rw [if_pos (by simp [h13]), if_pos (by simp [h13]), en, em]
theorem doX_length (op d n m imm kind : Int) (sys x : List Int) : (doX op d n m imm kind sys x).length = x.length := by
  unfold doX; split
  · exact setX_length _ _ _
  · rfl
theorem dataL_len (op d n m : Int) : (dataL op d n m).length ≤ 2 := by
  have h1 := addL_len [] d
  have h2 := addL_len [] n
  have h3 := addL_len (addL [] n) m
  simp only [List.length_nil, Nat.zero_add] at h1 h2
  unfold dataL
  split
  · omega
  · split
    · omega
    · split
      · omega
      · split <;> simp
/-- An integer's cell lies in no file's block. -/
theorem FileAt.ne_int {w : World} {T : TypeId} {g g' j : Nat} {x : List Int} {same : Bool} {sys : List Int} {y : Int} (h : FileAt w T g x same sys) (hc : w.cell? ⟨g', j, none⟩ = some (.int .i64 y)) : g' ≠ g := by
  rintro rfl
  rw [cell_of_row _ _ _ _ _ _ h.1] at hc
  have hm : Value.int .i64 y ∈ fileCells x same sys := by
    have := List.mem_of_getElem? (l := fileCells x same sys) (i := j) (by simpa using hc)
    exact this
  simp only [fileCells, u64s, List.mem_append, List.mem_map, List.mem_singleton] at hm
  rcases hm with (⟨z, _, hz⟩ | hz) | ⟨z, _, hz⟩
  · injection hz with h1 _; cases h1
  · cases hz
  · injection hz with h1 _; cases h1
theorem FileAt.other {w : World} {T : TypeId} {g : Nat} {x : List Int} {same : Bool} {sys : List Int} (h : FileAt w T g x same sys) {p : Addr} (hne : g ≠ p.block) (v : Value) : FileAt (w.setCell p v) T g x same sys :=
  ⟨(Below.heap_setCell w p v g hne).trans h.1, h.2⟩
theorem InstrAt.other {w : World} {T : TypeId} {g : Nat} {op d n m imm kind : Int} (h : InstrAt w T g op d n m imm kind) {p : Addr} (hne : g ≠ p.block) (v : Value) : InstrAt (w.setCell p v) T g op d n m imm kind :=
  (Below.heap_setCell w p v g hne).trans h
def RhInv (w : World) (op d n m imm kind : Int) (xf : List Int) (sf : Bool) (sys : List Int) (g g4 ig : Nat) (p2 : Option Addr) (l : List Int) (k : Nat) (xg : List Int) (sg : Bool) (wr : World) : Prop :=
  (FileAt wr 30 g4 xg sg sys ∧ FileAt wr 30 g xf sf sys ∧ InstrAt wr 42 ig op d n m imm kind ∧ Below w.heap.size w wr) ∧ Agree xf xg sf sg l k ∧
  ∀ j, j < l.length → ∃ g' off, p2 = some ⟨g', off, none⟩ ∧ wr.cell? ⟨g', off + j, none⟩ = some (.int .i64 (l.getD j 0))
theorem rh_keep {w wr w' : World} {op d n m imm kind : Int} {xf xg xg' : List Int} {sf sg sg' : Bool} {sys : List Int} {g g4 ig : Nat} {p2 : Option Addr} {l : List Int} {k : Nat} (hI : RhInv w op d n m imm kind xf sf sys g g4 ig p2 l k xg sg wr)
    (hf : FileAt w' 30 g4 xg' sg' sys) (hg : wr.grownBy w' (some g4)) (hgg : g ≠ g4 ∧ ig ≠ g4 ∧ w.heap.size ≤ g4) (hA : Agree xf xg' sf sg' l (k + 1)) : RhInv w op d n m imm kind xf sf sys g g4 ig p2 l (k + 1) xg' sg' w' := by
  obtain ⟨⟨h1, h2, h3, h4⟩, _, h5⟩ := hI
  refine ⟨⟨hf, h2.kept hg (fun e => hgg.1 (by injection e)), h3.kept hg (fun e => hgg.2.1 (by injection e)), h4.grown hg h4.size (fun k hk => by injection hk with hk; omega)⟩, hA, fun j hj => ?_⟩
  obtain ⟨g', off, hp, hc⟩ := h5 j hj
  exact ⟨g', off, hp, hg.cell hc (fun e => h1.ne_int hc (by injection e))⟩
theorem rh_reg {w wr w' : World} {op d n m imm kind : Int} {xf xg : List Int} {sf sg : Bool} {sys : List Int} {g g4 ig : Nat} {p2 : Option Addr} {l : List Int} {k m8 : Nat} {y : Int} (hj : k < l.length) (hI : RhInv w op d n m imm kind xf sf sys g g4 ig p2 l k xg sg wr)
    (hy : l.getD k 0 = y) (h32 : (y == 32) = false) (hf : FileAt w' 30 g4 (setX xg y (getX xf y)) sg sys) (hg : (wr.drewN m8).grownBy w' (some g4)) (hgg : g ≠ g4 ∧ ig ≠ g4 ∧ w.heap.size ≤ g4) : RhInv w op d n m imm kind xf sf sys g g4 ig p2 l (k + 1) (setX xg y (getX xf y)) sg w' :=
  rh_keep hI hf ⟨hg.os, hg.tape, hg.output, hg.size, hg.block⟩ hgg (hI.2.1.reg hj hI.1.1.2.1 hy h32)
theorem rh_flag {w wr : World} {op d n m imm kind : Int} {xf xg : List Int} {sf sg : Bool} {sys : List Int} {g g4 ig : Nat} {p2 : Option Addr} {l : List Int} {k : Nat} {y : Int} (hj : k < l.length) (hI : RhInv w op d n m imm kind xf sf sys g g4 ig p2 l k xg sg wr)
    (hy : l.getD k 0 = y) (h32 : (y == 32) = true) (hgg : g ≠ g4 ∧ ig ≠ g4 ∧ w.heap.size ≤ g4) : RhInv w op d n m imm kind xf sf sys g g4 ig p2 l (k + 1) xg sf (wr.setCell ⟨g4, 31, none⟩ (.bool sf)) :=
  rh_keep hI (hI.1.1.setFlag sf) ⟨rfl, rfl, rfl, by simp [World.setCell], fun j _ hj => heap_setCell_other wr _ j _ (fun e => hj (by simp [e]))⟩ hgg (hI.2.1.flag hj hy h32)

end Go.Proofs.Ytikflhigenijdaa
