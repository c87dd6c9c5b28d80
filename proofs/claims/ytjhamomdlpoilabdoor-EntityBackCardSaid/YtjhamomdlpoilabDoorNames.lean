/- The table of the package entity: what the function names makes. -/
import Derived.Test.YtjhamomdlpoilabDoorChars1
namespace Go.Proofs.YtjhamomdlpoilabDoor.Ent
open Go.RowKit Go.Proofs.YtjhamomdlpoilabDoorW.PrintWords
/-- The table of names: a name's bytes, its sign, and whether it needs no semicolon. -/
structure Nm where
  word : ByteArray
  sign : Int
  bare : Bool
def tab : List Nm := [⟨{ data := #[97, 109, 112] }, 38, true⟩,
  ⟨{ data := #[108, 116] }, 60, true⟩,
  ⟨{ data := #[103, 116] }, 62, true⟩,
  ⟨{ data := #[113, 117, 111, 116] }, 34, true⟩,
  ⟨{ data := #[110, 98, 115, 112] }, 160, true⟩,
  ⟨{ data := #[99, 111, 112, 121] }, 169, true⟩,
  ⟨{ data := #[114, 101, 103] }, 174, true⟩,
  ⟨{ data := #[116, 105, 109, 101, 115] }, 215, true⟩,
  ⟨{ data := #[100, 105, 118, 105, 100, 101] }, 247, true⟩,
  ⟨{ data := #[101, 97, 99, 117, 116, 101] }, 233, true⟩,
  ⟨{ data := #[97, 117, 109, 108] }, 228, true⟩,
  ⟨{ data := #[111, 117, 109, 108] }, 246, true⟩,
  ⟨{ data := #[117, 117, 109, 108] }, 252, true⟩,
  ⟨{ data := #[115, 122, 108, 105, 103] }, 223, true⟩,
  ⟨{ data := #[121, 101, 110] }, 165, true⟩,
  ⟨{ data := #[99, 101, 110, 116] }, 162, true⟩,
  ⟨{ data := #[112, 111, 117, 110, 100] }, 163, true⟩,
  ⟨{ data := #[115, 101, 99, 116] }, 167, true⟩,
  ⟨{ data := #[112, 97, 114, 97] }, 182, true⟩,
  ⟨{ data := #[109, 105, 100, 100, 111, 116] }, 183, true⟩,
  ⟨{ data := #[110, 111, 116] }, 172, true⟩,
  ⟨{ data := #[100, 101, 103] }, 176, true⟩,
  ⟨{ data := #[102, 114, 97, 99, 49, 50] }, 189, true⟩,
  ⟨{ data := #[102, 114, 97, 99, 49, 52] }, 188, true⟩,
  ⟨{ data := #[97, 112, 111, 115] }, 39, false⟩,
  ⟨{ data := #[104, 101, 108, 108, 105, 112] }, 8230, false⟩,
  ⟨{ data := #[109, 100, 97, 115, 104] }, 8212, false⟩,
  ⟨{ data := #[110, 100, 97, 115, 104] }, 8211, false⟩,
  ⟨{ data := #[108, 115, 113, 117, 111] }, 8216, false⟩,
  ⟨{ data := #[114, 115, 113, 117, 111] }, 8217, false⟩,
  ⟨{ data := #[108, 100, 113, 117, 111] }, 8220, false⟩,
  ⟨{ data := #[114, 100, 113, 117, 111] }, 8221, false⟩,
  ⟨{ data := #[98, 117, 108, 108] }, 8226, false⟩,
  ⟨{ data := #[101, 117, 114, 111] }, 8364, false⟩,
  ⟨{ data := #[116, 114, 97, 100, 101] }, 8482, false⟩,
  ⟨{ data := #[108, 97, 114, 114] }, 8592, false⟩,
  ⟨{ data := #[114, 97, 114, 114] }, 8594, false⟩,
  ⟨{ data := #[105, 110, 102, 105, 110] }, 8734, false⟩,
  ⟨{ data := #[110, 101] }, 8800, false⟩,
  ⟨{ data := #[108, 101] }, 8804, false⟩,
  ⟨{ data := #[103, 101] }, 8805, false⟩,
  ⟨{ data := #[110, 111, 116, 105, 110] }, 8713, false⟩,
  ⟨{ data := #[97, 108, 112, 104, 97] }, 945, false⟩,
  ⟨{ data := #[98, 101, 116, 97] }, 946, false⟩,
  ⟨{ data := #[112, 105] }, 960, false⟩,
  ⟨{ data := #[115, 117, 109] }, 8721, false⟩,
  ⟨{ data := #[109, 105, 110, 117, 115] }, 8722, false⟩,
  ⟨{ data := #[108, 97, 110, 103] }, 10216, false⟩]
def nmCells (x : Nm) : List Value := [.string x.word, .int .i32 x.sign, .bool x.bare]
def nmVal (w : ByteArray) (n : Int) (b : Bool) : Value := .agg #[.string w, .int .i32 n, .bool b]

set_option maxRecDepth 100000 in
set_option maxHeartbeats 4000000 in
theorem names_any (w : World) :
    Calls Tryd.prog 75 #[] w fun e w' => e = .returned (.slice (some ⟨w.heap.size, 0, none⟩) 48 48) ∧ w.alloc (.cells (tab.flatMap nmCells).toArray 113) = w' := by
  go_enter Tryd.func75, Tryd.ntmps75
  refine wp_seq ?_
  refine wp_region_lit ?_
  refine Kd.event_run (v := .slice none 0 0) (w1 := w) rfl (by as_aux_lemma => kernel_rfl) ?_
  refine wpList_nil ?_
  refine wp_seq ?_
  refine wp_region_lit ?_
  refine Kd.event_run (v := nmVal { data := #[97, 109, 112] } 38 true) (w1 := w) rfl (by as_aux_lemma => kernel_rfl) ?_
  refine Kd.event_run (v := nmVal { data := #[108, 116] } 60 true) (w1 := w) rfl (by as_aux_lemma => kernel_rfl) ?_
  refine Kd.event_run (v := nmVal { data := #[103, 116] } 62 true) (w1 := w) rfl (by as_aux_lemma => kernel_rfl) ?_
  refine Kd.event_run (v := nmVal { data := #[113, 117, 111, 116] } 34 true) (w1 := w) rfl (by as_aux_lemma => kernel_rfl) ?_
  refine Kd.event_run (v := nmVal { data := #[110, 98, 115, 112] } 160 true) (w1 := w) rfl (by as_aux_lemma => kernel_rfl) ?_
  refine Kd.event_run (v := nmVal { data := #[99, 111, 112, 121] } 169 true) (w1 := w) rfl (by as_aux_lemma => kernel_rfl) ?_
  refine Kd.event_run (v := nmVal { data := #[114, 101, 103] } 174 true) (w1 := w) rfl (by as_aux_lemma => kernel_rfl) ?_
  refine Kd.event_run (v := nmVal { data := #[116, 105, 109, 101, 115] } 215 true) (w1 := w) rfl (by as_aux_lemma => kernel_rfl) ?_
  refine Kd.event_run (v := nmVal { data := #[100, 105, 118, 105, 100, 101] } 247 true) (w1 := w) rfl (by as_aux_lemma => kernel_rfl) ?_
  refine Kd.event_run (v := nmVal { data := #[101, 97, 99, 117, 116, 101] } 233 true) (w1 := w) rfl (by as_aux_lemma => kernel_rfl) ?_
  refine Kd.event_run (v := nmVal { data := #[97, 117, 109, 108] } 228 true) (w1 := w) rfl (by as_aux_lemma => kernel_rfl) ?_
  refine Kd.event_run (v := nmVal { data := #[111, 117, 109, 108] } 246 true) (w1 := w) rfl (by as_aux_lemma => kernel_rfl) ?_
  refine Kd.event_run (v := nmVal { data := #[117, 117, 109, 108] } 252 true) (w1 := w) rfl (by as_aux_lemma => kernel_rfl) ?_
  refine Kd.event_run (v := nmVal { data := #[115, 122, 108, 105, 103] } 223 true) (w1 := w) rfl (by as_aux_lemma => kernel_rfl) ?_
  refine Kd.event_run (v := nmVal { data := #[121, 101, 110] } 165 true) (w1 := w) rfl (by as_aux_lemma => kernel_rfl) ?_
  refine Kd.event_run (v := nmVal { data := #[99, 101, 110, 116] } 162 true) (w1 := w) rfl (by as_aux_lemma => kernel_rfl) ?_
  refine Kd.event_run (v := nmVal { data := #[112, 111, 117, 110, 100] } 163 true) (w1 := w) rfl (by as_aux_lemma => kernel_rfl) ?_
  refine Kd.event_run (v := nmVal { data := #[115, 101, 99, 116] } 167 true) (w1 := w) rfl (by as_aux_lemma => kernel_rfl) ?_
  refine Kd.event_run (v := nmVal { data := #[112, 97, 114, 97] } 182 true) (w1 := w) rfl (by as_aux_lemma => kernel_rfl) ?_
  refine Kd.event_run (v := nmVal { data := #[109, 105, 100, 100, 111, 116] } 183 true) (w1 := w) rfl (by as_aux_lemma => kernel_rfl) ?_
  refine Kd.event_run (v := nmVal { data := #[110, 111, 116] } 172 true) (w1 := w) rfl (by as_aux_lemma => kernel_rfl) ?_
  refine Kd.event_run (v := nmVal { data := #[100, 101, 103] } 176 true) (w1 := w) rfl (by as_aux_lemma => kernel_rfl) ?_
  refine Kd.event_run (v := nmVal { data := #[102, 114, 97, 99, 49, 50] } 189 true) (w1 := w) rfl (by as_aux_lemma => kernel_rfl) ?_
  refine Kd.event_run (v := nmVal { data := #[102, 114, 97, 99, 49, 52] } 188 true) (w1 := w) rfl (by as_aux_lemma => kernel_rfl) ?_
  refine Kd.event_run (v := nmVal { data := #[97, 112, 111, 115] } 39 false) (w1 := w) rfl (by as_aux_lemma => kernel_rfl) ?_
  refine Kd.event_run (v := nmVal { data := #[104, 101, 108, 108, 105, 112] } 8230 false) (w1 := w) rfl (by as_aux_lemma => kernel_rfl) ?_
  refine Kd.event_run (v := nmVal { data := #[109, 100, 97, 115, 104] } 8212 false) (w1 := w) rfl (by as_aux_lemma => kernel_rfl) ?_
  refine Kd.event_run (v := nmVal { data := #[110, 100, 97, 115, 104] } 8211 false) (w1 := w) rfl (by as_aux_lemma => kernel_rfl) ?_
  refine Kd.event_run (v := nmVal { data := #[108, 115, 113, 117, 111] } 8216 false) (w1 := w) rfl (by as_aux_lemma => kernel_rfl) ?_
  refine Kd.event_run (v := nmVal { data := #[114, 115, 113, 117, 111] } 8217 false) (w1 := w) rfl (by as_aux_lemma => kernel_rfl) ?_
  refine Kd.event_run (v := nmVal { data := #[108, 100, 113, 117, 111] } 8220 false) (w1 := w) rfl (by as_aux_lemma => kernel_rfl) ?_
  refine Kd.event_run (v := nmVal { data := #[114, 100, 113, 117, 111] } 8221 false) (w1 := w) rfl (by as_aux_lemma => kernel_rfl) ?_
  refine Kd.event_run (v := nmVal { data := #[98, 117, 108, 108] } 8226 false) (w1 := w) rfl (by as_aux_lemma => kernel_rfl) ?_
  refine Kd.event_run (v := nmVal { data := #[101, 117, 114, 111] } 8364 false) (w1 := w) rfl (by as_aux_lemma => kernel_rfl) ?_
  refine Kd.event_run (v := nmVal { data := #[116, 114, 97, 100, 101] } 8482 false) (w1 := w) rfl (by as_aux_lemma => kernel_rfl) ?_
  refine Kd.event_run (v := nmVal { data := #[108, 97, 114, 114] } 8592 false) (w1 := w) rfl (by as_aux_lemma => kernel_rfl) ?_
  refine Kd.event_run (v := nmVal { data := #[114, 97, 114, 114] } 8594 false) (w1 := w) rfl (by as_aux_lemma => kernel_rfl) ?_
  refine Kd.event_run (v := nmVal { data := #[105, 110, 102, 105, 110] } 8734 false) (w1 := w) rfl (by as_aux_lemma => kernel_rfl) ?_
  refine Kd.event_run (v := nmVal { data := #[110, 101] } 8800 false) (w1 := w) rfl (by as_aux_lemma => kernel_rfl) ?_
  refine Kd.event_run (v := nmVal { data := #[108, 101] } 8804 false) (w1 := w) rfl (by as_aux_lemma => kernel_rfl) ?_
  refine Kd.event_run (v := nmVal { data := #[103, 101] } 8805 false) (w1 := w) rfl (by as_aux_lemma => kernel_rfl) ?_
  refine Kd.event_run (v := nmVal { data := #[110, 111, 116, 105, 110] } 8713 false) (w1 := w) rfl (by as_aux_lemma => kernel_rfl) ?_
  refine Kd.event_run (v := nmVal { data := #[97, 108, 112, 104, 97] } 945 false) (w1 := w) rfl (by as_aux_lemma => kernel_rfl) ?_
  refine Kd.event_run (v := nmVal { data := #[98, 101, 116, 97] } 946 false) (w1 := w) rfl (by as_aux_lemma => kernel_rfl) ?_
  refine Kd.event_run (v := nmVal { data := #[112, 105] } 960 false) (w1 := w) rfl (by as_aux_lemma => kernel_rfl) ?_
  refine Kd.event_run (v := nmVal { data := #[115, 117, 109] } 8721 false) (w1 := w) rfl (by as_aux_lemma => kernel_rfl) ?_
  refine Kd.event_run (v := nmVal { data := #[109, 105, 110, 117, 115] } 8722 false) (w1 := w) rfl (by as_aux_lemma => kernel_rfl) ?_
  refine Kd.event_run (v := nmVal { data := #[108, 97, 110, 103] } 10216 false) (w1 := w) rfl (by as_aux_lemma => kernel_rfl) ?_
  refine Kd.event_run (v := .slice (some ⟨w.heap.size, 0, none⟩) 48 48) (w1 := w.alloc (.cells (tab.flatMap nmCells).toArray 113)) rfl (by as_aux_lemma => kernel_rfl) ?_
  refine Kd.event_run (v := .slice (some ⟨w.heap.size, 0, none⟩) 48 48) (w1 := w.alloc (.cells (tab.flatMap nmCells).toArray 113)) rfl (by as_aux_lemma => kernel_rfl) ?_
  refine wpList_nil ?_
  refine wp_ret ?_
  refine bodyPost_ret (v := .slice (some ⟨w.heap.size, 0, none⟩) 48 48) ?_ rfl ⟨rfl, rfl⟩
  kernel_rfl
end Go.Proofs.YtjhamomdlpoilabDoor.Ent
