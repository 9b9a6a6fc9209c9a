/- The examples of layer 5 are answered as the page says. -/
import Derived.Test.YtikflhigenijdaaRegsTaken
namespace Go.Proofs.Ytikflhigenijdaa
open Go.RowKit

theorem file_size {x : List Int} {same : Bool} {sys : List Int} (hx : x.length = 31) (hs : sys.length = 3) : (Try.prog.info? 30).map (·.size) = some (fileCells x same sys).toArray.size := by
  rw [List.size_toArray, fileCells_length hx hs]; exact size_file

/-- A file that has been stored whole into a new block. -/
theorem FileAt.stored {w1 : World} {T : TypeId} {x : List Int} {same : Bool} {sys : List Int} {cs Z : Array Value} (h : (fileCells x same sys).toArray = cs) (hx : x.length = 31) (hs : sys.length = 3) :
    FileAt ((w1.alloc (.cells Z T)).setRow w1.heap.size cs) T w1.heap.size x same sys :=
  ⟨by rw [h]; exact setRow_heap _ _ _ _ _ _ (heap_alloc_new w1 _), hx, hs⟩
theorem below_stored {w w1 : World} (h : Below w.heap.size w w1) (o : Obj) (cs : Array Value) : Below w.heap.size w ((w1.alloc o).setRow w1.heap.size cs) :=
  below_setRow (below_alloc h o) h.size cs

theorem taken17 (dv : Int) : takenB 17 dv 0 true = true := rfl

set_option maxRecDepth 100000 in
theorem awake_any (w : World) :
    Calls Try.prog 8 #[] w fun e w' => e = .returned (.bool true) ∧ Below w.heap.size w w' := by
  have HI := Lib.hid (file_size (same := false) (ofX_length [3, 3]) (sys := [0, 0, 0]) rfl)
  have HO := Lib.hid (one_cells (ofX [3, 3]) false [0, 0, 0])
  have HS := Lib.hid (show (fileCells (ofX [3, 3]) false [0, 0, 0]).toArray.size = 35 by rw [List.size_toArray]; exact fileCells_length (ofX_length _) rfl)
  go_enter Try.func8, Try.ntmps8
  go_wp2_with fail
  refine (of_any _ [3, 3] _ _ (by decide) (.inr ⟨_, _, rfl, lit_cells .u64 [3, 3] _ _ _ rfl⟩)).mono ?_
  rintro e w1 ⟨rfl, hb⟩
  have hsz1 : w.heap.size ≤ w1.heap.size := by have := hb.size; simp at this; omega
  generalize hcs : (fileCells (ofX [3, 3]) false [0, 0, 0]).toArray = cs at *
  have HCS := Lib.hid hcs
  clear hcs
  go_wp2_with (refine wpList_store_row rfl 30 (.tmp 1) (.tmp 3) rfl w1.heap.size cs rfl rfl 30 _ (heap_alloc_new w1 _) HI.out (by rw [HS.out]; rfl) HO.out ?_)
  have hf2 := FileAt.stored (w1 := w1) (T := 30) (Z := #[.int .u64 0, .int .u64 0, .int .u64 0, .int .u64 0, .int .u64 0, .int .u64 0, .int .u64 0, .int .u64 0, .int .u64 0, .int .u64 0, .int .u64 0, .int .u64 0, .int .u64 0, .int .u64 0, .int .u64 0, .int .u64 0, .int .u64 0, .int .u64 0, .int .u64 0, .int .u64 0, .int .u64 0, .int .u64 0, .int .u64 0, .int .u64 0, .int .u64 0, .int .u64 0, .int .u64 0, .int .u64 0, .int .u64 0, .int .u64 0, .int .u64 0, .bool false, .int .u64 0, .int .u64 0, .int .u64 0]) HCS.out (ofX_length [3, 3]) (sys := [0, 0, 0]) rfl
  have hbb := below_stored (below_trans (below_alloc (Below.refl _ _) _) hb) (.cells #[.int .u64 0, .int .u64 0, .int .u64 0, .int .u64 0, .int .u64 0, .int .u64 0, .int .u64 0, .int .u64 0, .int .u64 0, .int .u64 0, .int .u64 0, .int .u64 0, .int .u64 0, .int .u64 0, .int .u64 0, .int .u64 0, .int .u64 0, .int .u64 0, .int .u64 0, .int .u64 0, .int .u64 0, .int .u64 0, .int .u64 0, .int .u64 0, .int .u64 0, .int .u64 0, .int .u64 0, .int .u64 0, .int .u64 0, .int .u64 0, .int .u64 0, .bool false, .int .u64 0, .int .u64 0, .int .u64 0] 30) cs
  generalize hw2 : (w1.alloc (.cells #[.int .u64 0, .int .u64 0, .int .u64 0, .int .u64 0, .int .u64 0, .int .u64 0, .int .u64 0, .int .u64 0, .int .u64 0, .int .u64 0, .int .u64 0, .int .u64 0, .int .u64 0, .int .u64 0, .int .u64 0, .int .u64 0, .int .u64 0, .int .u64 0, .int .u64 0, .int .u64 0, .int .u64 0, .int .u64 0, .int .u64 0, .int .u64 0, .int .u64 0, .int .u64 0, .int .u64 0, .int .u64 0, .int .u64 0, .int .u64 0, .int .u64 0, .bool false, .int .u64 0, .int .u64 0, .int .u64 0] 30)).setRow w1.heap.size cs = w2 at *
  clear hw2 hb
  have hgs : w.heap.size ≤ w1.heap.size := hsz1
  generalize w1.heap.size = g at *
  have hlt := hf2.lt
  refine (do_subs g 2 0 1 0 0 w2 hf2).mono ?_
  rintro e w3 ⟨rfl, hf3, hg3⟩
  have hfl := hf3.flag
  have HF := Lib.hid hf3
  have e1 : (getX (ofX [3, 3]) 0 == getX (ofX [3, 3]) 1) = true := by decide
  rw [e1] at hfl HF
  clear hf2 hf3 e1 HI HO HS HCS
  have hb3 := hbb.grown hg3 hbb.size (fun k hk => by injection hk with hk; omega)
  have l2 : loadB 2 = true := rfl
  clear hbb hg3
  go_wp2_with fail
  refine (taken_any g 17 0 0 0 1 0 w3 HF.out).mono ?_
  rintro e w4 ⟨rfl, hb4⟩
  rw [taken17]
  go_wp2_with (go_at_call 28; refine (load_any _ _ _ _ _ _ _).mono ?_; rintro e w5 ⟨rfl, hb5⟩)
  go_ret
  exact ⟨rfl, below_trans (below_trans hb3 hb4) hb5⟩

end Go.Proofs.Ytikflhigenijdaa
