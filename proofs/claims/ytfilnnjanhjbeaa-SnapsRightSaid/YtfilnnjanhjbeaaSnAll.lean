/- snaps.Create, Revert, Delete and the reference's, whole. Conditions: the image is read below the heap's size. (Printed by gen_snbegun.py.) -/
import Derived.Test.YtfilnnjanhjbeaaSnApi
import Derived.Test.YtfilnnjanhjbeaaSnCre
import Derived.Test.YtfilnnjanhjbeaaRSnApi
import Derived.Test.YtfilnnjanhjbeaaRSnCre
namespace Go.Proofs.Ytfilnnjanhjbeaa
open Go.RowKit Sl
theorem past_cases (m : Img) (name : ByteArray) : checkErr m ≠ 0 ∧ pastE m name = checkErr m ∨ checkErr m = 0 ∧ m.snaps.any (named name) = false ∧ pastE m name = 5 ∨ pastE m name = 0 := by
  by_cases he : checkErr m = 0
  · cases ha : m.snaps.any (named name)
    · exact .inr (.inl ⟨he, rfl, (past_none he ha).1⟩)
    · exact .inr (.inr (by unfold pastE; rw [if_pos he, if_pos ha]))
  · exact .inl ⟨he, (past_no he).1⟩
theorem create_any (v : IV) (m : Img) (name : ByteArray) (w : World) (h : ImgR w w.heap.size v m) (hsz : name.size ≤ 4611686018427387903) :
    Calls Try.prog 7 #[imgV m v, .string name] w (ImgOwn w.heap.size (createI m name) (createE m name) w) := by
  by_cases he : checkErr m = 0
  · by_cases hn : isName name = true
    · by_cases ha : m.snaps.any (named name) = true
      · have e : createE m name = 6 := by unfold createE; rw [if_pos he, if_neg (by rw [hn]; decide), if_pos ha]
        rw [show createI m name = noImg from by unfold createI; rw [e, if_neg (by decide)], e]
        exact create_there v m name w h he hsz hn ha
      · have ha' : m.snaps.any (named name) = false := by simpa using ha
        by_cases h3 : m.snaps.length = 3
        · have e : createE m name = 2 := by unfold createE; rw [if_pos he, if_neg (by rw [hn]; decide), if_neg ha, if_pos h3]
          rw [show createI m name = noImg from by unfold createI; rw [e, if_neg (by decide)], e]
          exact create_many v m name w h he hsz hn ha' h3
        · have e : createE m name = 0 := by unfold createE; rw [if_pos he, if_neg (by rw [hn]; decide), if_neg ha, if_neg h3]
          rw [show createI m name = settled (createX m name) from by unfold createI; rw [if_pos e], e]
          exact create_ok v m name w h e hsz
    · have hn' : isName name = false := by simpa using hn
      have e : createE m name = 4 := by unfold createE; rw [if_pos he, if_pos hn']
      rw [show createI m name = noImg from by unfold createI; rw [e, if_neg (by decide)], e]
      exact create_name v m name w h he hsz hn'
  · have e : createE m name = checkErr m := by unfold createE; rw [if_neg he]
    rw [show createI m name = noImg from by unfold createI; rw [e, if_neg he], e]
    exact create_no v m name w h he
theorem revert_any (v : IV) (m : Img) (name : ByteArray) (w : World) (h : ImgR w w.heap.size v m) :
    Calls Try.prog 8 #[imgV m v, .string name] w (ImgOwn w.heap.size (revertI m name) (pastE m name) w) := by
  rcases past_cases m name with ⟨he, e⟩ | ⟨he, hn, e⟩ | e
  · rw [show revertI m name = noImg from by unfold revertI; rw [e, if_neg he], e]
    exact revert_no v m name w h he
  · rw [show revertI m name = noImg from by unfold revertI; rw [e, if_neg (by decide)], e]
    exact revert_none v m name w h he hn
  · rw [show revertI m name = settled (revX m name) from by unfold revertI; rw [if_pos e], e]
    exact revert_ok v m name w h e
theorem delete_any (v : IV) (m : Img) (name : ByteArray) (w : World) (h : ImgR w w.heap.size v m) :
    Calls Try.prog 9 #[imgV m v, .string name] w (ImgOwn w.heap.size (deleteI m name) (pastE m name) w) := by
  rcases past_cases m name with ⟨he, e⟩ | ⟨he, hn, e⟩ | e
  · rw [show deleteI m name = noImg from by unfold deleteI; rw [e, if_neg he], e]
    exact delete_no v m name w h he
  · rw [show deleteI m name = noImg from by unfold deleteI; rw [e, if_neg (by decide)], e]
    exact delete_none v m name w h he hn
  · rw [show deleteI m name = settled (delX m name) from by unfold deleteI; rw [if_pos e], e]
    exact delete_ok v m name w h e
theorem rcreate_any (v : IV) (m : Img) (name : ByteArray) (w : World) (h : ImgR w w.heap.size v m) (hsz : name.size ≤ 4611686018427387903) :
    Calls Try.prog 10 #[imgV m v, .string name] w (ImgOwn w.heap.size (createI m name) (createE m name) w) := by
  by_cases he : checkErr m = 0
  · by_cases hn : isName name = true
    · by_cases ha : m.snaps.any (named name) = true
      · have e : createE m name = 6 := by unfold createE; rw [if_pos he, if_neg (by rw [hn]; decide), if_pos ha]
        rw [show createI m name = noImg from by unfold createI; rw [e, if_neg (by decide)], e]
        exact rcreate_there v m name w h he hsz hn ha
      · have ha' : m.snaps.any (named name) = false := by simpa using ha
        by_cases h3 : m.snaps.length = 3
        · have e : createE m name = 2 := by unfold createE; rw [if_pos he, if_neg (by rw [hn]; decide), if_neg ha, if_pos h3]
          rw [show createI m name = noImg from by unfold createI; rw [e, if_neg (by decide)], e]
          exact rcreate_many v m name w h he hsz hn ha' h3
        · have e : createE m name = 0 := by unfold createE; rw [if_pos he, if_neg (by rw [hn]; decide), if_neg ha, if_neg h3]
          rw [show createI m name = settled (createX m name) from by unfold createI; rw [if_pos e], e]
          exact rcreate_ok v m name w h e hsz
    · have hn' : isName name = false := by simpa using hn
      have e : createE m name = 4 := by unfold createE; rw [if_pos he, if_pos hn']
      rw [show createI m name = noImg from by unfold createI; rw [e, if_neg (by decide)], e]
      exact rcreate_name v m name w h he hsz hn'
  · have e : createE m name = checkErr m := by unfold createE; rw [if_neg he]
    rw [show createI m name = noImg from by unfold createI; rw [e, if_neg he], e]
    exact rcreate_no v m name w h he
theorem rrevert_any (v : IV) (m : Img) (name : ByteArray) (w : World) (h : ImgR w w.heap.size v m) :
    Calls Try.prog 11 #[imgV m v, .string name] w (ImgOwn w.heap.size (revertI m name) (pastE m name) w) := by
  rcases past_cases m name with ⟨he, e⟩ | ⟨he, hn, e⟩ | e
  · rw [show revertI m name = noImg from by unfold revertI; rw [e, if_neg he], e]
    exact rrevert_no v m name w h he
  · rw [show revertI m name = noImg from by unfold revertI; rw [e, if_neg (by decide)], e]
    exact rrevert_none v m name w h he hn
  · rw [show revertI m name = settled (revX m name) from by unfold revertI; rw [if_pos e], e]
    exact rrevert_ok v m name w h e
theorem rdelete_any (v : IV) (m : Img) (name : ByteArray) (w : World) (h : ImgR w w.heap.size v m) :
    Calls Try.prog 12 #[imgV m v, .string name] w (ImgOwn w.heap.size (deleteI m name) (pastE m name) w) := by
  rcases past_cases m name with ⟨he, e⟩ | ⟨he, hn, e⟩ | e
  · rw [show deleteI m name = noImg from by unfold deleteI; rw [e, if_neg he], e]
    exact rdelete_no v m name w h he
  · rw [show deleteI m name = noImg from by unfold deleteI; rw [e, if_neg (by decide)], e]
    exact rdelete_none v m name w h he hn
  · rw [show deleteI m name = settled (delX m name) from by unfold deleteI; rw [if_pos e], e]
    exact rdelete_ok v m name w h e
end Go.Proofs.Ytfilnnjanhjbeaa
