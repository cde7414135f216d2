/-
  The table of this seat's functions.
-/
import Derived.Test.YtbkbnhpadkkcaaaXFs0
import Derived.Test.YtbkbnhpadkkcaaaXFs1
import Derived.Test.YtbkbnhpadkkcaaaXFs2
import Derived.Test.YtbkbnhpadkkcaaaXFs3
namespace Go.Ax
open Go.Proofs

def T : Nat → Option XFunc
  | 3 => some xf_law03_VectorMakes
  | 4 => some xf_law03_VectorMerges
  | 5 => some xf_law03_VectorVoices
  | 6 => some xf_law03_VectorTogether
  | 7 => some xf_law03_VectorLeast
  | 8 => some xf_law03_VectorPartial
  | 9 => some xf_law03_VectorOwn
  | 10 => some xf_plain_Given_Vector
  | 11 => some xf_vector_New
  | 12 => some xf_ref03_New
  | 13 => some xf_vector_Set
  | 14 => some xf_ref03_Set
  | 15 => some xf_law03_num
  | 16 => some xf_plain_SameVector
  | 17 => some xf_vector_Check
  | 18 => some xf_ref03_Check
  | 19 => some xf_plain_Given_Intact
  | 20 => some xf_vector_Merge
  | 21 => some xf_ref03_Merge
  | 22 => some xf_vector_Compare
  | 23 => some xf_ref03_Compare
  | 24 => some xf_plain_Given_Voices
  | 25 => some xf_vector_Consistent
  | 26 => some xf_ref03_Consistent
  | 27 => some xf_vector_Alive
  | 28 => some xf_ref03_Alive
  | 29 => some xf_plain_SameInts
  | 30 => some xf_vector_Over
  | 31 => some xf_ref03_Over
  | 32 => some xf_law03_alive
  | 33 => some xf_law03_part
  | 34 => some xf_plain_Book_Vector
  | 35 => some xf_plain_Book_Ints
  | 36 => some xf_plain_Book_Apart
  | 37 => some xf_plain_CopyVector
  | 38 => some xf_vector_fits
  | 39 => some xf_ref03_may
  | 41 => some xf_plain_SameState
  | 42 => some xf_plain_SameEntries
  | 43 => some xf_nonce_Compare
  | 44 => some xf_ref03_below
  | 45 => some xf_vector_speak
  | 46 => some xf_ref03_voices
  | 47 => some xf_vector_speaks
  | 48 => some xf_ref03_mayVoice
  | 49 => some xf_law03_lo
  | 50 => some xf_plain_Book_apartBytes
  | 51 => some xf_plain_Book_apartInts
  | 52 => some xf_plain_Book_apartVector
  | 53 => some xf_plain_Book_apartEntries
  | 54 => some xf_plain_Book_apartCells
  | 55 => some xf_plain_Book_apartRows
  | 56 => some xf_plain_Book_apartResults
  | 57 => some xf_plain_Book_apartStamps
  | 58 => some xf_plain_Book_apartAcks
  | 59 => some xf_plain_Book_apartMarks
  | 60 => some xf_plain_sameAcks
  | 61 => some xf_plain_sameMarks
  | 62 => some xf_plain_SameBallots
  | 63 => some xf_plain_SameAnswers
  | 64 => some xf_ref02_Compare
  | 65 => some xf_plain_markByte
  | 66 => some xf_plain_markInt
  | 67 => some xf_plain_markDraw
  | 68 => some xf_plain_markEntry
  | 69 => some xf_plain_markCell
  | 70 => some xf_plain_markRow
  | 71 => some xf_plain_markResult
  | 72 => some xf_plain_markStamp
  | 73 => some xf_plain_markAck
  | 74 => some xf_plain_markMark
  | _ => none

theorem T_ok : ∀ f xf, T f = some xf → FOk Try.prog f xf := by
  intro f xf h
  unfold T at h
  split at h
  · cases h; exact .inl ⟨rfl, r_law03_VectorMakes⟩
  · cases h; exact .inl ⟨rfl, r_law03_VectorMerges⟩
  · cases h; exact .inl ⟨rfl, r_law03_VectorVoices⟩
  · cases h; exact .inl ⟨rfl, r_law03_VectorTogether⟩
  · cases h; exact .inl ⟨rfl, r_law03_VectorLeast⟩
  · cases h; exact .inl ⟨rfl, r_law03_VectorPartial⟩
  · cases h; exact .inl ⟨rfl, r_law03_VectorOwn⟩
  · cases h; exact .inl ⟨rfl, r_plain_Given_Vector⟩
  · cases h; exact .inl ⟨rfl, r_vector_New⟩
  · cases h; exact .inl ⟨rfl, r_ref03_New⟩
  · cases h; exact .inl ⟨rfl, r_vector_Set⟩
  · cases h; exact .inl ⟨rfl, r_ref03_Set⟩
  · cases h; exact .inl ⟨rfl, r_law03_num⟩
  · cases h; exact .inl ⟨rfl, r_plain_SameVector⟩
  · cases h; exact .inl ⟨rfl, r_vector_Check⟩
  · cases h; exact .inl ⟨rfl, r_ref03_Check⟩
  · cases h; exact .inl ⟨rfl, r_plain_Given_Intact⟩
  · cases h; exact .inl ⟨rfl, r_vector_Merge⟩
  · cases h; exact .inl ⟨rfl, r_ref03_Merge⟩
  · cases h; exact .inl ⟨rfl, r_vector_Compare⟩
  · cases h; exact .inl ⟨rfl, r_ref03_Compare⟩
  · cases h; exact .inl ⟨rfl, r_plain_Given_Voices⟩
  · cases h; exact .inl ⟨rfl, r_vector_Consistent⟩
  · cases h; exact .inl ⟨rfl, r_ref03_Consistent⟩
  · cases h; exact .inl ⟨rfl, r_vector_Alive⟩
  · cases h; exact .inl ⟨rfl, r_ref03_Alive⟩
  · cases h; exact .inl ⟨rfl, r_plain_SameInts⟩
  · cases h; exact .inl ⟨rfl, r_vector_Over⟩
  · cases h; exact .inl ⟨rfl, r_ref03_Over⟩
  · cases h; exact .inl ⟨rfl, r_law03_alive⟩
  · cases h; exact .inl ⟨rfl, r_law03_part⟩
  · cases h; exact .inl ⟨rfl, r_plain_Book_Vector⟩
  · cases h; exact .inl ⟨rfl, r_plain_Book_Ints⟩
  · cases h; exact .inl ⟨rfl, r_plain_Book_Apart⟩
  · cases h; exact .inl ⟨rfl, r_plain_CopyVector⟩
  · cases h; exact .inl ⟨rfl, r_vector_fits⟩
  · cases h; exact .inl ⟨rfl, r_ref03_may⟩
  · cases h; exact .inl ⟨rfl, r_plain_SameState⟩
  · cases h; exact .inl ⟨rfl, r_plain_SameEntries⟩
  · cases h; exact .inl ⟨rfl, r_nonce_Compare⟩
  · cases h; exact .inl ⟨rfl, r_ref03_below⟩
  · cases h; exact .inl ⟨rfl, r_vector_speak⟩
  · cases h; exact .inl ⟨rfl, r_ref03_voices⟩
  · cases h; exact .inl ⟨rfl, r_vector_speaks⟩
  · cases h; exact .inl ⟨rfl, r_ref03_mayVoice⟩
  · cases h; exact .inl ⟨rfl, r_law03_lo⟩
  · cases h; exact .inl ⟨rfl, r_plain_Book_apartBytes⟩
  · cases h; exact .inl ⟨rfl, r_plain_Book_apartInts⟩
  · cases h; exact .inl ⟨rfl, r_plain_Book_apartVector⟩
  · cases h; exact .inl ⟨rfl, r_plain_Book_apartEntries⟩
  · cases h; exact .inl ⟨rfl, r_plain_Book_apartCells⟩
  · cases h; exact .inl ⟨rfl, r_plain_Book_apartRows⟩
  · cases h; exact .inl ⟨rfl, r_plain_Book_apartResults⟩
  · cases h; exact .inl ⟨rfl, r_plain_Book_apartStamps⟩
  · cases h; exact .inl ⟨rfl, r_plain_Book_apartAcks⟩
  · cases h; exact .inl ⟨rfl, r_plain_Book_apartMarks⟩
  · cases h; exact .inl ⟨rfl, r_plain_sameAcks⟩
  · cases h; exact .inl ⟨rfl, r_plain_sameMarks⟩
  · cases h; exact .inl ⟨rfl, r_plain_SameBallots⟩
  · cases h; exact .inl ⟨rfl, r_plain_SameAnswers⟩
  · cases h; exact .inl ⟨rfl, r_ref02_Compare⟩
  · cases h; exact .inl ⟨rfl, r_plain_markByte⟩
  · cases h; exact .inl ⟨rfl, r_plain_markInt⟩
  · cases h; exact .inl ⟨rfl, r_plain_markDraw⟩
  · cases h; exact .inl ⟨rfl, r_plain_markEntry⟩
  · cases h; exact .inl ⟨rfl, r_plain_markCell⟩
  · cases h; exact .inl ⟨rfl, r_plain_markRow⟩
  · cases h; exact .inl ⟨rfl, r_plain_markResult⟩
  · cases h; exact .inl ⟨rfl, r_plain_markStamp⟩
  · cases h; exact .inl ⟨rfl, r_plain_markAck⟩
  · cases h; exact .inl ⟨rfl, r_plain_markMark⟩
  · cases h

end Go.Ax
