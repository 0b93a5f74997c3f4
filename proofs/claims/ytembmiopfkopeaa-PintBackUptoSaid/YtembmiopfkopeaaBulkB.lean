/- A slice's length under the bound. -/
import Derived.Test.YtembmiopfkopeaaBulk
import Derived.Test.YtembmiopfkopeaaOpenB
namespace Go.Proofs.Ytembmiopfkopeaa
open Go.ChangeShapes Go.WideShapes Go.ChangeAt Go.RowKit
theorem len_small {H : Type} {ds : List (DataW H)} (hk : Rows.uptoSmall H ds = true) {d : DataW H} {L : List Int} (hd : d ∈ ds) (hL : L = [] ∨ ∃ elems spare, d = .slice elems spare ∧ elems.length = L.length) : L.length ≤ 1048576 := by
  have hb : Rows.uptoBulkAll ds ≤ 1048576 := of_decide_eq_true hk
  rcases hL with rfl | ⟨elems, spare, rfl, hl⟩
  · simp
  · have h1 := bulks.part_le hd
    have h2 := bulks.slice_le elems spare
    omega
end Go.Proofs.Ytembmiopfkopeaa
