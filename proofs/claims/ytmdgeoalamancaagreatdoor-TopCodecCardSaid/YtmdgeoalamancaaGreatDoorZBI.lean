/- A spool, as new. -/
import Derived.Test.YtmdgeoalamancaaGreatDoorZBH
set_option maxRecDepth 100000
set_option linter.unusedVariables false
set_option linter.unusedSimpArgs false
namespace Go.Proofs.YtmdgeoalamancaaGreatDoor
open Go.RowKit Go.Maps Go.WideMaps
open Bt Can Mc
theorem size_drew (w:World):w.drew.heap.size=w.heap.size:=rfl
set_option maxHeartbeats 16000000 in
theorem spooln_any (w:World):Calls Tryz.prog 19 #[.agg confC.toArray] w (SpnP w):=by
 have hmm:= @run_makeMap Tryz.prog
 have HQ:=Lib.hid (fun w=>qright_any w)
 have HS:=Lib.hid (fun w=>storen_any w)
 have HT:=Lib.hid (fun w=>tablen_any w)
 have HR:=Lib.hid (fun w=>turnsn_any w)
 have HO0:=Lib.hid (Own.new_at w confC 49 _ rfl)
 obtain⟨w1,hw1⟩: ∃z:World,z=w.alloc (.cells confC.toArray 49):=⟨_,rfl⟩
 rw[←hw1] at HO0
 have HB1:Hid (Below w.heap.size w w1):=Lib.hid (by rw[hw1];exact (Below.refl _ _).alloc (Nat.le_refl _) _)
 have hz1:w.heap.size<w1.heap.size:=by rw[hw1];simp
 go_enter Tryz.func19,Tryz.ntmps19
 go_upto_region 1 with (fail)
 rw[←hw1]
 clear hw1
 obtain⟨qb,hqb⟩: ∃z,w.heap.size=z:=⟨_,rfl⟩
 have HQB:=Lib.hid hqb
 rw[hqb] at HO0 hz1 ⊢
 clear hqb
 have m0:=HO0.out.1 0 _ rfl
 have m1:=HO0.out.1 1 _ rfl
 have m2:=HO0.out.1 2 _ rfl
 have m3:=HO0.out.1 3 _ rfl
 go_wp2_with (fail)
 refine (HQ.out _).mono ?_
 rintro e w2 ⟨rfl,hb2⟩
 have HO2:=Lib.hid (HO0.out.below hb2 hz1)
 have HB2:=Lib.hid (HB1.out.trans (hb2.mono HB1.out.size))
 have hz2:qb<w2.heap.size:=Nat.lt_of_lt_of_le hz1 hb2.size
 clear hb2 HQ HO0 HB1 m0 m1 m2 m3
 have m0:=HO2.out.1 0 _ rfl
 go_wp2_with (fail)
 refine (HS.out _).mono ?_
 rintro e w3 ⟨sb,mb,db,sp,rfl,hsto,hsem,hsms,hsmb,hslt,hb3⟩
 have HO3:=Lib.hid (HO2.out.below hb3 hz2)
 have HB3:=Lib.hid (HB2.out.trans (hb3.mono HB2.out.size))
 have HST:Hid (OwL w3 sb (stC db sp mb 0)):=Lib.hid ⟨hsto,hslt⟩
 have HE0:=Lib.hid hsem
 have HSI:Hid (mb<sb∧w2.heap.size≤mb∧sb<w3.heap.size∧qb<w2.heap.size∧w.heap.size≤w2.heap.size):=Lib.hid ⟨hsms,hsmb,hslt,hz2,HB2.out.size⟩
 clear hsto hsem hsms hsmb hslt hb3 HS HO2 HB2 m0
 go_upto_region 6 with (fail)
 have m0:=HO3.out.1 0 _ rfl
 have m1:=HO3.out.1 1 _ rfl
 have m2:=HO3.out.1 2 _ rfl
 have m3:=HO3.out.1 3 _ rfl
 first|go_region_held_law (fun W=>W.cell? ⟨qb,0,none⟩=some (.int .i64 100)∧W.cell? ⟨qb,1,none⟩=some (.int .i64 2)∧W.cell? ⟨qb,2,none⟩=some (.int .i64 9)∧W.cell? ⟨qb,3,none⟩=some (.int .i64 9)) (first|exact⟨m0,m1,m2,m3⟩|exact HSa.out|exact HSb.out|(refine Qb4.alc ?_ _;assumption)) ((first
  |(go_at_call 37
    refine (HT.out _).mono ?_
    rintro e wT ⟨tb,m1',m2',rfl,hTo,hTe1,hTe2,hT1,hT2,hT3,hT4,hbT⟩
    have HT1:Hid (OwL wT tb [.slice none 0 0,.map (some m1'),.map (some m2')]):=Lib.hid ⟨hTo,hT4⟩
    have HTe1:=Lib.hid hTe1
    have HTe2:=Lib.hid hTe2
    have HTi:=Lib.hid (And.intro hT1 (And.intro hT2 (And.intro hT3 hT4)))
    have HTb:=Lib.hid hbT
    have HSa:Hid (Qb4 wT qb):=Lib.hid (Own.qb4 (Own.below (w:=w3) HO3.out (by (repeat (first|with_reducible exact Below.refl _ _|with_reducible refine bl_dna ?_ _|with_reducible refine bl_dnd ?_|with_reducible refine bl_dn ?_ hbT|with_reducible refine bl_dn ?_ hbR|with_reducible refine bl_dn ?_ HTb.out|with_reducible refine bl_dn ?_ HRb.out))) (by have:=HSI.out;omega)))
    clear hTo hTe1 hTe2 hT1 hT2 hT3 hT4 hbT)
  |(go_at_call 38
    refine (HR.out _).mono ?_
    rintro e wR ⟨rb,r1,r2,rfl,hRo,hRe1,hR1,hR3,hR4,hbR⟩
    have HR1:Hid (OwL wR rb (rnC r1 r2)):=Lib.hid ⟨hRo,hR4⟩
    have HRe1:=Lib.hid hRe1
    have HRi:=Lib.hid (And.intro hR1 (And.intro hR3 hR4))
    have HRb:=Lib.hid hbR
    have HSb:Hid (Qb4 wR qb):=Lib.hid (Own.qb4 (Own.below (w:=w3) HO3.out (by (repeat (first|with_reducible exact Below.refl _ _|with_reducible refine bl_dna ?_ _|with_reducible refine bl_dnd ?_|with_reducible refine bl_dn ?_ hbT|with_reducible refine bl_dn ?_ hbR|with_reducible refine bl_dn ?_ HTb.out|with_reducible refine bl_dn ?_ HRb.out))) (by have:=HSI.out;omega)))
    clear hRo hRe1 hR1 hR3 hR4 hbR)))|fail
 all_goals
  go_wp2_with (fail)
  go_ret2
  refine⟨_,sb,mb,tb,m1',m2',rb,r1,r2,_,_,db,sp,rfl,⟨OwL.new_at _ (spC sb tb rb _ _) _ _ (by simp),?_,?_,?_,?_,?_,?_,?_,?_,?_⟩,?_,?_,?_,?_,?_,?_,?_,?_⟩
  ·(repeat (first|with_reducible exact HST.out|with_reducible exact HT1.out|with_reducible exact HR1.out|with_reducible refine OwL.dna ?_ _|with_reducible refine OwL.dnd ?_|with_reducible refine OwL.below ?_ HTb.out|with_reducible refine OwL.below ?_ HRb.out))
  ·(repeat (first|with_reducible exact HST.out|with_reducible exact HT1.out|with_reducible exact HR1.out|with_reducible refine OwL.dna ?_ _|with_reducible refine OwL.dnd ?_|with_reducible refine OwL.below ?_ HTb.out|with_reducible refine OwL.below ?_ HRb.out))
  ·(repeat (first|with_reducible exact HST.out|with_reducible exact HT1.out|with_reducible exact HR1.out|with_reducible refine OwL.dna ?_ _|with_reducible refine OwL.dnd ?_|with_reducible refine OwL.below ?_ HTb.out|with_reducible refine OwL.below ?_ HRb.out))
  ·(repeat (first|with_reducible exact HE0.out|with_reducible exact HTe1.out|with_reducible exact HTe2.out|with_reducible exact HRe1.out|(with_reducible refine Emp.new_at _ _ ?_;simp;done)|with_reducible refine Emp.dna ?_ _|with_reducible refine Emp.dnd ?_|with_reducible refine Emp.below ?_ HTb.out|with_reducible refine Emp.below ?_ HRb.out))
  ·(repeat (first|with_reducible exact HE0.out|with_reducible exact HTe1.out|with_reducible exact HTe2.out|with_reducible exact HRe1.out|(with_reducible refine Emp.new_at _ _ ?_;simp;done)|with_reducible refine Emp.dna ?_ _|with_reducible refine Emp.dnd ?_|with_reducible refine Emp.below ?_ HTb.out|with_reducible refine Emp.below ?_ HRb.out))
  ·(repeat (first|with_reducible exact HE0.out|with_reducible exact HTe1.out|with_reducible exact HTe2.out|with_reducible exact HRe1.out|(with_reducible refine Emp.new_at _ _ ?_;simp;done)|with_reducible refine Emp.dna ?_ _|with_reducible refine Emp.dnd ?_|with_reducible refine Emp.below ?_ HTb.out|with_reducible refine Emp.below ?_ HRb.out))
  ·(repeat (first|with_reducible exact HE0.out|with_reducible exact HTe1.out|with_reducible exact HTe2.out|with_reducible exact HRe1.out|(with_reducible refine Emp.new_at _ _ ?_;simp;done)|with_reducible refine Emp.dna ?_ _|with_reducible refine Emp.dnd ?_|with_reducible refine Emp.below ?_ HTb.out|with_reducible refine Emp.below ?_ HRb.out))
  ·(repeat (first|with_reducible exact HE0.out|with_reducible exact HTe1.out|with_reducible exact HTe2.out|with_reducible exact HRe1.out|(with_reducible refine Emp.new_at _ _ ?_;simp;done)|with_reducible refine Emp.dna ?_ _|with_reducible refine Emp.dnd ?_|with_reducible refine Emp.below ?_ HTb.out|with_reducible refine Emp.below ?_ HRb.out))
  ·(have a1:=HSI.out;have a2:=HTi.out;have a3:=HRi.out;have a4:=HTb.out.size;have a5:=HRb.out.size;have a6:w3.drew.heap.size=w3.heap.size:=rfl;have a7:=HB3.out.size;(try simp only[World.size_alloc,size_drew] at a2 a3 a4 a5 ⊢);omega)
  ·refine HB3.out.trans (Below.mono (B:=w3.heap.size) ?_ HB3.out.size)
   (repeat (first|with_reducible exact Below.refl _ _|with_reducible refine bl_dna ?_ _|with_reducible refine bl_dnd ?_|with_reducible refine bl_dn ?_ hbT|with_reducible refine bl_dn ?_ hbR|with_reducible refine bl_dn ?_ HTb.out|with_reducible refine bl_dn ?_ HRb.out))
  ·(have a1:=HSI.out;have a2:=HTi.out;have a3:=HRi.out;have a4:=HTb.out.size;have a5:=HRb.out.size;have a6:w3.drew.heap.size=w3.heap.size:=rfl;have a7:=HB3.out.size;(try simp only[World.size_alloc,size_drew] at a2 a3 a4 a5 ⊢);omega)
  ·(have a1:=HSI.out;have a2:=HTi.out;have a3:=HRi.out;have a4:=HTb.out.size;have a5:=HRb.out.size;have a6:w3.drew.heap.size=w3.heap.size:=rfl;have a7:=HB3.out.size;(try simp only[World.size_alloc,size_drew] at a2 a3 a4 a5 ⊢);omega)
  ·(have a1:=HSI.out;have a2:=HTi.out;have a3:=HRi.out;have a4:=HTb.out.size;have a5:=HRb.out.size;have a6:w3.drew.heap.size=w3.heap.size:=rfl;have a7:=HB3.out.size;(try simp only[World.size_alloc,size_drew] at a2 a3 a4 a5 ⊢);omega)
  ·(have a1:=HSI.out;have a2:=HTi.out;have a3:=HRi.out;have a4:=HTb.out.size;have a5:=HRb.out.size;have a6:w3.drew.heap.size=w3.heap.size:=rfl;have a7:=HB3.out.size;(try simp only[World.size_alloc,size_drew] at a2 a3 a4 a5 ⊢);omega)
  ·(have a1:=HSI.out;have a2:=HTi.out;have a3:=HRi.out;have a4:=HTb.out.size;have a5:=HRb.out.size;have a6:w3.drew.heap.size=w3.heap.size:=rfl;have a7:=HB3.out.size;(try simp only[World.size_alloc,size_drew] at a2 a3 a4 a5 ⊢);omega)
  ·(have a1:=HSI.out;have a2:=HTi.out;have a3:=HRi.out;have a4:=HTb.out.size;have a5:=HRb.out.size;have a6:w3.drew.heap.size=w3.heap.size:=rfl;have a7:=HB3.out.size;(try simp only[World.size_alloc,size_drew] at a2 a3 a4 a5 ⊢);omega)
  ·(have a1:=HSI.out;have a2:=HTi.out;have a3:=HRi.out;have a4:=HTb.out.size;have a5:=HRb.out.size;have a6:w3.drew.heap.size=w3.heap.size:=rfl;have a7:=HB3.out.size;(try simp only[World.size_alloc,size_drew] at a2 a3 a4 a5 ⊢);omega)
end Go.Proofs.YtmdgeoalamancaaGreatDoor
