/- The chapter's example of a disk, walked. -/
import Derived.Test.YtnngdflamkdgaaaDiskDoes
namespace Go.Proofs.Ytnngdflamkdgaaa
open Go.RowKit Go.Maps
open Dsk

set_option maxRecDepth 100000 in
set_option maxHeartbeats 4000000 in
theorem does_any (w : World) : Calls Try.prog 17 #[] w fun e w' => e = .returned (.bool true) ∧ Below w.heap.size w w' := by
  go_enter Try.func17, Try.ntmps17
  go_wp2_with fail
  refine (live_new 10 w (by omega) (by omega)).mono ?_
  rintro e w1 ⟨v, rfl, h1⟩
  obtain ⟨bd, rfl⟩ := h1.ptr
  have H1 := Lib.hid h1
  clear h1
  go_wp2_with fail
  refine (H1.out.append' ⟨#[98]⟩ ⟨#[120, 121, 122]⟩ rfl rfl qr1 rfl (by decide) (by decide)).mono ?_
  rintro e w2 ⟨rfl, h2⟩
  have H2 := Lib.hid (show Live _ _ _ _ q1 from h2)
  clear h2 H1
  go_wp2_with fail
  refine (H2.out.sync' ⟨#[98]⟩ rfl qr2 rfl (by decide)).mono ?_
  rintro e w3 ⟨rfl, h3⟩
  have H3 := Lib.hid (show Live _ _ _ _ q2 from h3)
  clear h3 H2
  go_wp2_with fail
  refine (H3.out.append' ⟨#[98]⟩ ⟨#[117, 118]⟩ rfl rfl qr3 rfl (by decide) (by decide)).mono ?_
  rintro e w4 ⟨rfl, h4⟩
  have H4 := Lib.hid (show Live _ _ _ _ q3 from h4)
  clear h4 H3
  go_wp2_with fail
  refine (H4.out.append' ⟨#[97]⟩ ⟨#[49, 50, 51, 52, 53]⟩ rfl rfl qr4 rfl (by decide) (by decide)).mono ?_
  rintro e w5 ⟨rfl, h5⟩
  have H5 := Lib.hid (show Live _ _ _ _ q4 from h5)
  clear h5 H4
  go_wp2_with fail
  refine (H5.out.append' ⟨#[99]⟩ ⟨#[54]⟩ rfl rfl qr5 rfl (by decide) (by decide)).mono ?_
  rintro e w6 ⟨rfl, h6⟩
  have H6 := Lib.hid (show Live _ _ _ _ q5 from h6)
  clear h6 H5
  go_wp2_with fail
  refine (H6.out.unsynced).mono ?_
  rintro e w7 ⟨u, rfl, hu, hb7⟩
  rw [qu] at hu
  obtain ⟨ux, uc, rfl⟩ := hu.shape
  have Hu := Lib.hid hu
  have H7 := Lib.hid (H6.out.keep hb7)
  clear hu hb7 H6
  go_wp2_with fail
  refine (sameInts_lit [5, 2] rfl (by decide) Hu.out.rd).mono ?_
  rintro e w8 ⟨rfl, hb8⟩
  have H8 := Lib.hid (H7.out.keep hb8)
  clear hb8 H7 Hu
  go_wp2_with fail
  refine (H8.out.names).mono ?_
  rintro e w9 ⟨u2, rfl, hu, hb9⟩
  rw [qn] at hu
  obtain ⟨ux2, uc2, hux, _⟩ := hu.each
  subst hux
  have Hu := Lib.hid (show RdS w9 (.slice ux2 2 uc2) [⟨#[97]⟩, ⟨#[98]⟩] from hu.rd)
  have H9 := Lib.hid (H8.out.keep hb9)
  clear hu hb9 H8
  have hlen : (strs [[97], [98]]).length = 2 := rfl
  rw [hlen]
  clear hlen
  go_wp2_with fail
  refine (sameTexts_lit [⟨#[97]⟩, ⟨#[98]⟩] rfl (by decide) Hu.out).mono ?_
  rintro e w10 ⟨rfl, hb10⟩
  have H10 := Lib.hid (H9.out.keep hb10)
  clear hb10 H9 Hu
  go_wp2_with fail
  refine (H10.out.synced ⟨#[98]⟩ (lit_le (by decide))).mono ?_
  rintro e w11 ⟨rfl, rfl⟩
  have qs' : q5.synced (ByteArray.mk #[98]).data.toList = 3 := qs
  rw [qs']
  clear qs'
  go_wp2_with fail
  refine (H10.out.crashLit [2, 1] (by decide) qr6 rfl).mono ?_
  rintro e w12 ⟨rfl, h12⟩
  have H12 := Lib.hid (show Live _ _ _ _ q6 from h12)
  clear h12 H10
  go_wp2_with fail
  refine (H12.out.start' qr7 rfl).mono ?_
  rintro e w13 ⟨rfl, h13⟩
  have H13 := Lib.hid (show Live _ _ _ _ q7 from h13)
  clear h13 H12
  go_wp2_with fail
  refine (H13.out.read' ⟨#[98]⟩ (x := ⟨#[120, 121, 122, 117]⟩) rfl qd7.1.symm qd7.2 (by decide)).mono ?_
  rintro e w14 ⟨rfl, hb14⟩
  have H14 := Lib.hid (H13.out.keep hb14)
  clear hb14 H13
  go_wp2_with fail
  refine (H14.out.failLit 1 (by omega) [0, 9] (by decide) qr8 rfl).mono ?_
  rintro e w15 ⟨rfl, h15⟩
  have H15 := Lib.hid (show Live _ _ _ _ q8 from h15)
  clear h15 H14
  go_wp2_with fail
  refine (H15.out.append' ⟨#[98]⟩ ⟨#[113]⟩ rfl rfl qr9 rfl (by decide) (by decide)).mono ?_
  rintro e w16 ⟨rfl, h16⟩
  have H16 := Lib.hid (show Live _ _ _ _ q9 from h16)
  clear h16 H15
  go_wp2_with fail
  refine (H16.out.rename' ⟨#[98]⟩ ⟨#[97]⟩ rfl rfl qr10 rfl (by decide) (by decide)).mono ?_
  rintro e w17 ⟨rfl, h17⟩
  have H17 := Lib.hid (show Live _ _ _ _ q10 from h17)
  clear h17 H16
  go_wp2_with fail
  refine (H17.out.start' qr11 rfl).mono ?_
  rintro e w18 ⟨rfl, h18⟩
  have H18 := Lib.hid (show Live _ _ _ _ q11 from h18)
  clear h18 H17
  go_wp2_with fail
  refine (H18.out.read' ⟨#[98]⟩ (x := ⟨#[120, 121, 122, 117, 113]⟩) rfl qd11.1.symm qd11.2 (by decide)).mono ?_
  rintro e w19 ⟨rfl, hb19⟩
  have H19 := Lib.hid (H18.out.keep hb19)
  clear hb19 H18
  go_wp2_with fail
  refine (H19.out.starts).mono ?_
  rintro e w20 ⟨rfl, rfl⟩
  rw [qst]
  go_wp2_with fail
  go_ret
  exact ⟨rfl, H19.out.below⟩
end Go.Proofs.Ytnngdflamkdgaaa
