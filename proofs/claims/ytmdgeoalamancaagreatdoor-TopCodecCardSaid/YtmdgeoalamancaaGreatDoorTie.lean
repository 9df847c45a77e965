/-
  DERIVED. GIVEN WITH THE SEED: THE PROGRAM's TIES (one call each: nine closed facts by the kernel) AND EACH ROW's TIE, after the 31st guide's Derived/Test/Toyas{Tie, Card}.lean. No idea stands in it: it is a product of the set-up. Laid BY PROGRAM, IN A SANDBOX (cutbox-door.mjs). By AI agents, Wed Nov 11 2026. No macro, syntax, notation, axiom, sorry.
-/
import Derived.Test.YtmdgeoalamancaaGreatDoorRows
import Derived.LaidByTextLater
import Derived.SevenTiedAt
import Derived.LaidSub
import Derived.LaidOnce
namespace Go.Proofs.YtmdgeoalamancaaGreatDoor
open Go
set_option maxRecDepth 100000
theorem seatTie1 : Tryz.prog.laidByTextLater [("punnet/crc.steps", Rows.laid_punnet_crc_steps), ("unicode/utf8.acceptRanges", Rows.laid_unicode_utf8_acceptRanges), ("punnet/lazy.cares", Rows.laid_punnet_lazy_cares), ("punnet/alpha.lengthBases", Rows.laid_punnet_alpha_lengthBases), ("punnet/alpha.lengthBits", Rows.laid_punnet_alpha_lengthBits), ("punnet/alpha.distBases", Rows.laid_punnet_alpha_distBases), ("punnet/alpha.order", Rows.laid_punnet_alpha_order)] [.data, .data, .data, .data, .data, .data, .data] true :=
  Program.laidByTextLater_by_one 59 8 33 (by kernel_rfl) (by kernel_rfl) (by kernel_rfl) (by kernel_rfl) (by kernel_rfl) (by kernel_rfl) (fun _ _ => by kernel_rfl)
theorem pin_laid_unicode_utf8_first : Tryz.pinned.checked.prog.pinnedFits "unicode/utf8.first" = true := by kernel_rfl
theorem noOwnUnsafe : Tryz.pinned.checked.prog.headLifts.contains "ownunsafe" = false := by kernel_rfl
theorem fits1 : Tryz.pinned.checked.prog.listedFits [("punnet/crc.steps", Rows.laid_punnet_crc_steps), ("unicode/utf8.acceptRanges", Rows.laid_unicode_utf8_acceptRanges), ("punnet/lazy.cares", Rows.laid_punnet_lazy_cares), ("punnet/alpha.lengthBases", Rows.laid_punnet_alpha_lengthBases), ("punnet/alpha.lengthBits", Rows.laid_punnet_alpha_lengthBits), ("punnet/alpha.distBases", Rows.laid_punnet_alpha_distBases), ("punnet/alpha.order", Rows.laid_punnet_alpha_order), ("unicode/utf8.first", Rows.laid_unicode_utf8_first)] = true := by
  unfold Program.listedFits
  rw [noOwnUnsafe]
  kernel_rfl
theorem tie : Tryz.prog.laidByTextLater [("punnet/crc.steps", Rows.laid_punnet_crc_steps), ("unicode/utf8.acceptRanges", Rows.laid_unicode_utf8_acceptRanges), ("punnet/lazy.cares", Rows.laid_punnet_lazy_cares), ("punnet/alpha.lengthBases", Rows.laid_punnet_alpha_lengthBases), ("punnet/alpha.lengthBits", Rows.laid_punnet_alpha_lengthBits), ("punnet/alpha.distBases", Rows.laid_punnet_alpha_distBases), ("punnet/alpha.order", Rows.laid_punnet_alpha_order)] [.data, .data, .data, .data, .data, .data, .data] true :=
  Program.laidByTextLater.sub seatTie1 ["punnet/crc.steps", "unicode/utf8.acceptRanges", "punnet/lazy.cares", "punnet/alpha.lengthBases", "punnet/alpha.lengthBits", "punnet/alpha.distBases", "punnet/alpha.order"] (by kernel_rfl) (by kernel_rfl)
theorem topCodec_row_tie : Rows.topCodecRow.laidByTextAt .later Tryz.pinned [.data, .data, .data, .data, .data, .data, .data, .pinned] true :=
  OpenClaim.laidByTextAt_pinned rfl rfl tie rfl rfl rfl rfl (fun y hy _e => by
    simp only [Rows.topCodecRow, List.zip_cons_cons, List.zip_nil_right, List.mem_cons, List.mem_nil_iff, or_false] at hy
    rcases hy with rfl | rfl | rfl | rfl | rfl | rfl | rfl | rfl
    · cases _e
    · cases _e
    · cases _e
    · cases _e
    · cases _e
    · cases _e
    · cases _e
    · exact ⟨pin_laid_unicode_utf8_first, by kernel_rfl⟩) fits1
theorem topCodecUpto_row_tie : Rows.topCodecUptoRow.laidByTextAt .later Tryz.pinned [.data, .data, .data, .data, .data, .data, .data, .pinned] true :=
  OpenClaim.laidByTextAt_pinned rfl rfl tie rfl rfl rfl rfl (fun y hy _e => by
    simp only [Rows.topCodecUptoRow, List.zip_cons_cons, List.zip_nil_right, List.mem_cons, List.mem_nil_iff, or_false] at hy
    rcases hy with rfl | rfl | rfl | rfl | rfl | rfl | rfl | rfl
    · cases _e
    · cases _e
    · cases _e
    · cases _e
    · cases _e
    · cases _e
    · cases _e
    · exact ⟨pin_laid_unicode_utf8_first, by kernel_rfl⟩) fits1
end Go.Proofs.YtmdgeoalamancaaGreatDoor
