/- The writer of bits: Put. The writer of bits: New, Align, Bytes, Take. The reader of bits. The reader of bits: Peek, Bits. -/
import Derived.Test.YtmdgeoalamancaaGreatDoorZAD
set_option maxRecDepth 100000
set_option linter.unusedVariables false
set_option linter.unusedSimpArgs false
namespace Go.Proofs.YtmdgeoalamancaaGreatDoor
open Go.RowKit
open Bt
theorem u64_wrap (x:Nat) (h:x<18446744073709551616):IntKind.u64.wrap (x:Int)=(x:Int):=by
 simp[IntKind.wrap,IntKind.signed,IntKind.bits]
 omega
theorem u8_wrap (x:Nat):IntKind.u8.wrap (x:Int)=((x%256:Nat):Int):=by
 simp[IntKind.wrap,IntKind.signed,IntKind.bits]
theorem and_u64 (x n:Nat) (hx:x<18446744073709551616) (hn:n≤63):bits .and .u64 (x:Int) ((2^n-1:Nat):Int)=((x%2^n:Nat):Int):=by
 unfold bits
 have hp:2^n≤2^63:=Nat.pow_le_pow_right (by decide) hn
 have e1:(BitVec.ofInt 64 (x:Int)&&& BitVec.ofInt 64 ((2^n-1:Nat):Int)).toNat=x%2^n:=by
  rw[BitVec.toNat_and,BitVec.ofInt_natCast,BitVec.ofInt_natCast,BitVec.toNat_ofNat,BitVec.toNat_ofNat,Nat.mod_eq_of_lt (show x<2^64 by omega),Nat.mod_eq_of_lt (show 2^n-1<2^64 by omega),Nat.and_two_pow_sub_one_eq_mod]
 show IntKind.u64.wrap (((BitVec.ofInt 64 (x:Int)&&& BitVec.ofInt 64 ((2^n-1:Nat):Int)).toNat:Nat):Int)=_
 rw[e1,u64_wrap _ (by have:=Nat.mod_le x (2^n);omega)]
theorem or_u64 (a b k:Nat) (ha:a<2^k) (hb:a+b*2^k<18446744073709551616):bits .or .u64 (a:Int) ((b*2^k:Nat):Int)=((a+b*2^k:Nat):Int):=by
 unfold bits
 have e1:(BitVec.ofInt 64 (a:Int) |||BitVec.ofInt 64 ((b*2^k:Nat):Int)).toNat=a+b*2^k:=by
  rw[BitVec.toNat_or,BitVec.ofInt_natCast,BitVec.ofInt_natCast,BitVec.toNat_ofNat,BitVec.toNat_ofNat,Nat.mod_eq_of_lt (show a<2^64 by omega),Nat.mod_eq_of_lt (show b*2^k<2^64 by omega),Nat.or_comm,Nat.mul_comm,←Nat.two_pow_add_eq_or_of_lt ha]
  omega
 show IntKind.u64.wrap (((BitVec.ofInt 64 (a:Int) |||BitVec.ofInt 64 ((b*2^k:Nat):Int)).toNat:Nat):Int)=_
 rw[e1,u64_wrap _ hb]
set_option maxHeartbeats 8000000 in
theorem put_any (F:List Nat) (wb:Nat) (S:List Bool) (v n:Nat) (w:World) (h:Wr F w wb S) (hv:v<4294967296) (hn:n≤32) (hS:S.length≤1000000000):
  Calls Tryz.prog 51 #[.pointer (some ⟨wb,0,none⟩),.int .u32 (v:Nat),.int .i64 (n:Nat)] w fun e w'=>e= .returned (.bool true)∧ ∃F',Wr F' w' wb (S++lsb v n)∧Fr F w w'∧New F F' w.heap.size:=by
 obtain⟨va,out,part,k,ln,rfl,h1,h2,h3,h4,h5,h6,h7⟩:=h
 have d1:decide ((n:Int)<0)=false:=decide_eq_false (by omega)
 have d2:decide ((32:Int)<(n:Int))=false:=decide_eq_false (by omega)
 have d3:decide (32<n)=false:=decide_eq_false (by omega)
 have k1:=h1.1 1 _ rfl
 have k2:=h1.1 2 _ rfl
 have f1:=h1.2 1
 have HO:=Lib.hid h1
 have HR:=Lib.hid h3
 have HSL:=Lib.hid h7
 have hp1:2^n≤4294967296:=Nat.le_trans (Nat.pow_le_pow_right (by decide) hn) (by decide)
 have hp2:0<2^n:=Nat.two_pow_pos n
 have hp3:2^k≤128:=Nat.le_trans (Nat.pow_le_pow_right (by decide) (show k≤7 by omega)) (by decide)
 have x1:IntKind.u64.wrap ((2:Int)^n)=((2^n:Nat):Int):=by
  rw[show ((2:Int)^n)=((2^n:Nat):Int) by push_cast;rfl]
  exact u64_wrap _ (by omega)
 have hM:=Nat.mod_lt v hp2
 have x3:=and_u64 v n (by omega) (by omega)
 have hZ:(v%2^n)*2^k≤4294967295*128:=Nat.mul_le_mul (by omega) hp3
 have x4:IntKind.u64.wrap (((v%2^n:Nat):Int)*(2:Int)^k)=(((v%2^n)*2^k:Nat):Int):=by
  rw[show (((v%2^n:Nat):Int)*(2:Int)^k)=(((v%2^n)*2^k:Nat):Int) by push_cast;rfl]
  exact u64_wrap _ (by omega)
 have x5:=or_u64 part (v%2^n) k h6 (by omega)
 have HA:Hid (part+v%2^n*2^k<2^(k+n)∧lsb (part+v%2^n*2^k) (k+n)=lsb part k++lsb v n):=Lib.hid (by
  constructor
  ·have h8:v%2^n*2^k≤(2^n-1)*2^k:=Nat.mul_le_mul_right _ (by omega)
   rw[Nat.sub_mul,Nat.one_mul] at h8
   have h9:2^k≤2^n*2^k:=Nat.le_mul_of_pos_left _ hp2
   rw[Nat.pow_add,Nat.mul_comm (2^k) (2^n)]
   omega
  ·rw[lsb_add]
   have e1:lsb (part+v%2^n*2^k) k=lsb part k:=by
    rw[←lsb_mod _ (Nat.le_refl k),Nat.add_mul_mod_self_right,Nat.mod_eq_of_lt h6]
   have e2:(part+v%2^n*2^k)/2^k=v%2^n:=by
    rw[Nat.add_mul_div_right _ _ (Nat.two_pow_pos k),Nat.div_eq_of_lt h6,Nat.zero_add]
   rw[e1,e2,lsb_mod _ (Nat.le_refl n)])
 obtain⟨A,hA⟩: ∃z,part+v%2^n*2^k=z:=⟨_,rfl⟩
 rw[hA] at x5 HA
 obtain⟨Z,hZ0⟩: ∃z,v%2^n*2^k=z:=⟨_,rfl⟩
 rw[hZ0] at x4 x5
 obtain⟨M,hM0⟩: ∃z,v%2^n=z:=⟨_,rfl⟩
 rw[hM0] at x3 x4
 have x2:IntKind.u64.wrap (((2^n:Nat):Int)-1)=((2^n-1:Nat):Int):=by
  rw[show (((2^n:Nat):Int)-1)=((2^n-1:Nat):Int) by omega]
  exact u64_wrap _ (by omega)
 obtain⟨Q,hQ⟩: ∃z,2^n-1=z:=⟨_,rfl⟩
 rw[hQ] at x2 x3
 obtain⟨P,hP⟩: ∃z,2^n=z:=⟨_,rfl⟩
 rw[hP] at x1 x2
 have x6:IntKind.i64.wrap ((k:Int)+(n:Int))=((k+n:Nat):Int):=by rw[IntWalk.i64_in _ (by omega)];omega
 have hkn:k+n≤39:=by omega
 obtain⟨K,hK⟩: ∃z,k+n=z:=⟨_,rfl⟩
 rw[hK] at x6 HA hkn
 clear h1 h3 h7 hA hZ0 hM0 hQ hP hK hM hZ hp1 hp2 hp3 h6
 go_enter Tryz.func51,Tryz.ntmps51
 go_upto_region 3 with (fail)
 go_region
 all_goals
  have HO1:=Lib.hid ((HO.out.set 1 (.int .u64 (A:Nat)) (by simp)).below (Below.refl _ _).drew (by simpa using h2))
  have HR1:=Lib.hid ((HR.out.other (c:=wb) (by omega) 1 (.int .u64 (A:Nat))).below (Below.refl _ _).drew)
  have HF1:Hid (Fr (wb::obk va) w (w.setCell ⟨wb,1,none⟩ (.int .u64 (A:Nat))).drew):=Lib.hid (((Fr.refl _ w).setCell (p:=⟨wb,1,none⟩) (.inl (by simp)) _).drew)
  have hl1:wb<(w.setCell ⟨wb,1,none⟩ (.int .u64 (A:Nat))).drew.heap.size:=by simpa using h2
  clear k1 k2 f1
  generalize (w.setCell ⟨wb,1,none⟩ (.int .u64 (A:Nat))).drew=w1 at*
  have k2:=HO1.out.1 2 _ rfl
  have f2:=HO1.out.2 2
  have k3:=HO1.out.1 3 _ rfl
  have f3:=HO1.out.2 3
  simp only[List.set_cons_succ,List.set_cons_zero] at k2 k3 HO1
  obtain⟨L2,hL2⟩: ∃z,IntKind.i64.wrap (ln+(n:Int))=z:=⟨_,rfl⟩
  go_upto_region 5 with (fail)
  have HO2:=Lib.hid (HO1.out.set 2 (.int .i64 (K:Nat)) (by simp))
  have HR2:=Lib.hid (HR1.out.other (c:=wb) (by omega) 2 (.int .i64 (K:Nat)))
  have HF2:=Lib.hid (HF1.out.setCell (p:=⟨wb,2,none⟩) (.inl (by simp)) (.int .i64 (K:Nat)))
  have hl2:wb<(w1.setCell ⟨wb,2,none⟩ (.int .i64 (K:Nat))).heap.size:=by simpa using hl1
  clear k2 f2 k3 f3
  generalize w1.setCell ⟨wb,2,none⟩ (.int .i64 (K:Nat))=w2 at*
  simp only[List.set_cons_succ,List.set_cons_zero] at HO2
  have k3:=HO2.out.1 3 _ rfl
  have f3:=HO2.out.2 3
  have hS2:out.length≤1000000000:=by
   have:=congrArg List.length HSL.out
   rw[List.length_append,byts_len] at this
   omega
  have HST:Hid (byts out++lsb A K=S++lsb v n):=Lib.hid (by rw[HA.out.2,HSL.out,List.append_assoc])
  have HAL:=Lib.hid HA.out.1
  have hSn:S.length+n≤1000000032:=by omega
  go_wp2_with (fail)
  go_loopw [] (fun wr=> ∃(va':Value) (out':List Nat) (A' K':Nat) (L':Int),Hid (Own wr wb [va',.int .u64 (A':Nat),.int .i64 (K':Nat),.int .i64 L'])∧Hid (Row (wb+1) 5 1 wr va' out'.length (bC out'))∧Hid (∀x∈out',x<256)∧K'≤39∧Hid (A'<2^K')∧Hid (byts out'++lsb A' K'=S++lsb v n)∧Hid (Fr (wb::obk va) w wr)∧Hid (New (wb::obk va) (wb::obk va') w.heap.size)∧wb<wr.heap.size) (fun wr=>match wr.cell? ⟨wb,2,none⟩ with|some (.int _ i)=>i.toNat|_=>0)
  case atStart=>exact⟨va,out,A,K,_,Lib.hid (HO2.out.set 3 _ (by simp)),Lib.hid (HR2.out.other (c:=wb) (by omega) 3 _),Lib.hid h4,hkn,HAL,HST,Lib.hid (HF2.out.setCell (p:=⟨wb,3,none⟩) (.inl (by simp)) _),Lib.hid (New.refl _ _),by simpa using hl2⟩
  case round=>
   clear HO2 HR2 HF2 hl2 k3 f3 HST HAL HO1 HR1 HF1 HA
   obtain⟨vb,ob,A',K',L',HO,HR,HBY,hK39,HAL,HST,HF,HN,hlt⟩:=hrel
   obtain⟨w5,rfl⟩: ∃z:World,z=wr:=⟨_,rfl⟩
   have k1:=HO.out.1 1 _ rfl
   have k2:=HO.out.1 2 _ rfl
   have k0:=HO.out.1 0 _ rfl
   by_cases h8:8≤K'
   rotate_left
   ·have d4:decide (8≤K')=false:=decide_eq_false h8
    have d5:decide ((8:Int)≤(K':Int))=false:=decide_eq_false (by omega)
    clear k0 k1
    go_wp2_with (fail)
    go_ret
    exact⟨by rfl,_,⟨vb,ob,A',K',L',rfl,HO.out,hlt,HR.out,HBY.out,by omega,HAL.out,HST.out.symm⟩,HF.out,HN.out⟩
   have d4:decide (8≤K')=true:=decide_eq_true h8
   have d5:decide ((8:Int)≤(K':Int))=true:=decide_eq_true (by omega)
   have y1:IntKind.u8.wrap ((A':Nat):Int)=((A'%256:Nat):Int):=u8_wrap A'
   have y2:((A':Nat):Int)/(256:Int)=((A'/256:Nat):Int):=by omega
   have y3:IntKind.i64.wrap ((K':Int)-8)=((K'-8:Nat):Int):=by rw[IntWalk.i64_in _ (by omega)];omega
   have HS8:Hid (byts (ob++[A'%256])++lsb (A'/256) (K'-8)=S++lsb v n):=Lib.hid (by
    rw[←HST.out,byts_app,byts_one,List.append_assoc]
    congr 1
    conv=>rhs;rw[show K'=8+(K'-8) by omega,lsb_add]
    rw[←lsb_mod A' (Nat.le_refl 8)])
   have HA8:Hid (A'/256<2^(K'-8)):=Lib.hid (by
    rw[Nat.div_lt_iff_lt_mul (by decide),show (256:Nat)=2^8 by rfl,←Nat.pow_add,show K'-8+8=K' by omega]
    exact HAL.out)
   have hmod:A'%256<256:=Nat.mod_lt _ (by decide)
   have hob:ob.length≤1000000100:=by
    have:=congrArg List.length HST.out
    simp only[List.length_append,byts_len,lsb_len] at this
    omega
   obtain⟨B,hB⟩: ∃z,A'%256=z:=⟨_,rfl⟩
   rw[hB] at y1 HS8 hmod
   obtain⟨C,hC⟩: ∃z,A'/256=z:=⟨_,rfl⟩
   rw[hC] at y2 HS8 HA8
   obtain⟨E,hE⟩: ∃z,K'-8=z:=⟨_,rfl⟩
   have hEK:E<K':=by omega
   rw[hE] at y3 HS8 HA8
   obtain⟨ga,gc,rfl,_⟩:=HR.out.form
   obtain⟨m,hm⟩: ∃z,ob.length=z:=⟨_,rfl⟩
   have HM:=Lib.hid hm
   rw[hm] at HR hob HO HN k0
   have HX:Hid (Fr (wb::obk va) w (w5.drew.alloc (.cells #[.int .u8 (B:Nat)] 5))):=Lib.hid ((HF.out.drew).alloc _)
   have hbx:Below w5.heap.size w5 (w5.drew.alloc (.cells #[.int .u8 (B:Nat)] 5)):=Below.alloc ((Below.refl _ w5).drew) (Nat.le_refl _) _
   have HOX:=Lib.hid (HO.out.below hbx hlt)
   have HRX:=Lib.hid (HR.out.below hbx)
   have HZX:Hid (wb+1≤(w5.drew.alloc (.cells #[.int .u8 (B:Nat)] 5)).heap.size):=Lib.hid (by have:=hbx.size;omega)
   have HZW:Hid (w.heap.size≤(w5.drew.alloc (.cells #[.int .u8 (B:Nat)] 5)).heap.size):=Lib.hid (HX.out.size)
   clear hB hC hE hm hbx
   go_upto_region 7 with (fail)
   clear k2
   go_region_law (first
    |(refine step_append_row2 Tryz.underlying23 info_u8 rfl (by decide) rfl (.tmp 56) (.tmp 62) rfl rfl HRX.out rfl (Sl.new w5.drew 1 1 [.int .u8 (B:Nat)] 5 rfl) (by intro u hu;simp at hu;subst hu;rfl) (by omega) (by omega) HZX.out ?_
      intro v69 w69 hr69 hb69 hg69 hw69
      obtain⟨a69,c69,hv69,_⟩:=hr69.form
      subst hv69
      have HR69:=Lib.hid hr69
      have HO69:=Lib.hid (HOX.out.grown2 hg69 (fun e=>by have:=(HRX.out.lt wb e.symm).1;omega) (by have:=HZX.out;omega))
      have HF69:=Lib.hid (HX.out.grown hg69 (fun q hq hlt2=>by
       rcases HN.out q (List.mem_cons_of_mem _ (mem_obk.2 hq)) with h|h
       ·exact h
       ·omega))
      have HN69:=Lib.hid (HN.out.row hw69 HZW.out)
      have y0:=HO69.out.1 0 _ rfl
      have f0:=HO69.out.2 0
      clear hr69 hb69 hg69 hw69))
   all_goals
    have HO70:=Lib.hid (HO69.out.set 0 (.slice a69 (m+1) c69) (by simp))
    have HR70:=Lib.hid (HR69.out.other (c:=wb) (by omega) 0 (.slice a69 (m+1) c69))
    have HF70:=Lib.hid (HF69.out.setCell (p:=⟨wb,0,none⟩) (.inl (by simp)) (.slice a69 (m+1) c69))
    have hl70:wb<(w69.setCell ⟨wb,0,none⟩ (.slice a69 (m+1) c69)).heap.size:=by
     have:=(HO69.out).1 0 _ rfl
     have:=World.block_lt_of_cell? w69 _ this
     simpa using this
    clear y0 f0 k0 k1
    generalize w69.setCell ⟨wb,0,none⟩ (.slice a69 (m+1) c69)=w70 at*
    simp only[List.set_cons_succ,List.set_cons_zero] at HO70
    have k1:=HO70.out.1 1 _ rfl
    have f1:=HO70.out.2 1
    have k2:=HO70.out.1 2 _ rfl
    have f2:=HO70.out.2 2
    go_upto_region 9 with (fail)
    have HO71:=Lib.hid (HO70.out.set 1 (.int .u64 (C:Nat)) (by simp))
    have HR71:=Lib.hid (HR70.out.other (c:=wb) (by omega) 1 (.int .u64 (C:Nat)))
    have HF71:=Lib.hid (HF70.out.setCell (p:=⟨wb,1,none⟩) (.inl (by simp)) (.int .u64 (C:Nat)))
    have hl71:wb<(w70.setCell ⟨wb,1,none⟩ (.int .u64 (C:Nat))).heap.size:=by simpa using hl70
    clear k1 f1 k2 f2
    generalize w70.setCell ⟨wb,1,none⟩ (.int .u64 (C:Nat))=w71 at*
    simp only[List.set_cons_succ,List.set_cons_zero] at HO71
    have k2:=HO71.out.1 2 _ rfl
    have f2:=HO71.out.2 2
    have HBY2:Hid (∀x∈ob++[B],x<256):=Lib.hid (fun x hx=>by
     rcases List.mem_append.1 hx with hx|hx
     ·exact HBY.out x hx
     ·rw[List.mem_singleton.1 hx];exact hmod)
    have HO72:=Lib.hid (HO71.out.set 2 (.int .i64 (E:Nat)) (by simp))
    have HR72:=Lib.hid (HR71.out.other (c:=wb) (by omega) 2 (.int .i64 (E:Nat)))
    have HF72:=Lib.hid (HF71.out.setCell (p:=⟨wb,2,none⟩) (.inl (by simp)) (.int .i64 (E:Nat)))
    have hl72:wb<(w71.setCell ⟨wb,2,none⟩ (.int .i64 (E:Nat))).heap.size:=by simpa using hl71
    simp only[List.set_cons_succ,List.set_cons_zero] at HO72
    have z2:=HO72.out.1 2 _ rfl
    go_wp2_with (fail)
    go_roundw
    case rel=>exact⟨_,ob++[B],C,E,_,HO72,Lib.hid (by rw[List.length_append,bC_app,HM.out];exact HR72.out),HBY2,by omega,HA8,HS8,HF72,HN69,hl72⟩
    case measure=>
     have z9:=HO.out.1 2 _ rfl
     rw[z2,z9]
     show (E:Int).toNat<(K':Int).toNat
     omega
end Go.Proofs.YtmdgeoalamancaaGreatDoor
namespace Go.Proofs.YtmdgeoalamancaaGreatDoor
open Go.RowKit
open Bt
theorem neg7: ∀k:Fin 8,bits .and .i64 (-((k.val:Nat):Int)) 7=(((8-k.val)%8:Nat):Int):=by decide+kernel
theorem byts_mod {S:List Bool} {out:List Nat} {part n:Nat} (h:S=byts out++lsb part n) (hn:n<8):S.length%8=n:=by
 rw[h,List.length_append,byts_len,lsb_len]
 omega
set_option maxHeartbeats 1000000 in
theorem align_any (F:List Nat) (wb:Nat) (S:List Bool) (w:World) (h:Wr F w wb S) (hS:S.length≤1000000000):
  Calls Tryz.prog 33 #[.pointer (some ⟨wb,0,none⟩)] w fun e w'=>e= .returned (.int .i64 (Mc.gap S.length:Nat))∧ ∃F',Wr F' w' wb (S++lsb 0 (Mc.gap S.length))∧Fr F w w'∧New F F' w.heap.size:=by
 have HPU:=Lib.hid (put_any F wb S 0 (Mc.gap S.length) w h (by decide) (by unfold Mc.gap;omega) hS)
 obtain⟨va,out,part,k,ln,rfl,h1,h2,h3,h4,h5,h6,h7⟩:=h
 have k2:=h1.1 2 _ rfl
 have hm:=byts_mod h7 h5
 have hg:Mc.gap S.length=(8-k)%8:=by unfold Mc.gap;rw[hm]
 have x1:=neg7 ⟨k,h5⟩
 simp only at x1
 rw[←hg] at x1
 obtain⟨G,hG⟩: ∃z,Mc.gap S.length=z:=⟨_,rfl⟩
 rw[hG] at x1 HPU ⊢
 clear h1 h3 h7 hm hg hG
 go_enter Tryz.func33,Tryz.ntmps33
 go_wp2_with (fail)
 refine HPU.out.mono ?_
 rintro e w1 ⟨rfl,hw1⟩
 have HW:=Lib.hid hw1
 clear hw1 k2
 go_wp2_with (fail)
 go_ret
 exact⟨by rfl,HW.out⟩
set_option maxHeartbeats 1000000 in
theorem bytes_any (F:List Nat) (wb:Nat) (S:List Bool) (l:List Nat) (m:Nat) (v:Value) (w:World) (h:Wr F w wb S) (hS:S.length≤900000000) (hsl: ∀W,Fr F w W→Sl W W.heap.size 1 v m (bC l)) (hm:m=l.length) (hl:m≤1000000) (hb: ∀x∈l,x<256):
  Calls Tryz.prog 52 #[.pointer (some ⟨wb,0,none⟩),v] w fun e w'=>e= .returned (.tuple #[])∧ ∃F',Wr F' w' wb (S++lsb 0 (Mc.gap S.length)++byts l)∧Fr F w w'∧New F F' w.heap.size:=by
 have HAL:=Lib.hid (align_any F wb S w h (by omega))
 have hwbF:wb∈F:=by obtain⟨_,_,_,_,_,e,_⟩:=h;rw[e];simp
 obtain⟨va,vc,rfl,_⟩:=(hsl w (Fr.refl _ _)).form
 have HSL:=Lib.hid hsl
 have HM:=Lib.hid hm
 have HB:=Lib.hid hb
 clear h hsl hm hb
 go_enter Tryz.func52,Tryz.ntmps52
 go_wp2_with (fail)
 refine HAL.out.mono ?_
 rintro e w1 ⟨rfl,F1,hw1,hf1,hn1⟩
 obtain⟨vo,out,part,k,ln,rfl,h1,h2,h3,h4,h5,h6,h7⟩:=hw1
 have hlen:=byts_mod h7 h5
 have hk0:k=0:=by
  rw[←hlen,List.length_append,lsb_len]
  unfold Mc.gap
  omega
 subst hk0
 have hp0:part=0:=by simpa using h6
 subst hp0
 have HT:Hid (S++lsb 0 (Mc.gap S.length)=byts out):=Lib.hid (by rw[h7];simp[lsb])
 have hol:out.length≤200000000:=by
  have:=congrArg List.length HT.out
  simp only[List.length_append,lsb_len,byts_len] at this
  have:Mc.gap S.length<8:=by unfold Mc.gap;omega
  omega
 have k0:=h1.1 0 _ rfl
 have HO:=Lib.hid h1
 have HR:=Lib.hid h3
 have HF:=Lib.hid hf1
 have HN:=Lib.hid hn1
 obtain⟨oa,oc,rfl,_⟩:=h3.form
 obtain⟨q,hq⟩: ∃z,out.length=z:=⟨_,rfl⟩
 have HQ:=Lib.hid hq
 rw[hq] at HR hol k0 HO HN
 have HS1:=Lib.hid (HSL.out w1 hf1)
 have hz1:wb+1≤w1.heap.size:=h2
 clear h1 h3 h7 hlen hf1 hn1 hq HAL
 go_wp2_with (at_builtin;refine append_rowM (base:=wb+1) (size:=1) (xs:=bC out) Tryz.underlying23 info_u8 rfl (by decide) rfl _ _ rfl rfl HR.out rfl HS1.out (bC_one _) ?_ ?_ ?_ ?_;omega;omega;exact hz1)
 intro v7 w7 hr7 hb7 hg7 hw7
 obtain⟨a7,c7,rfl,_⟩:=hr7.form
 have HO7:=Lib.hid (HO.out.grown2 hg7 (fun e=>by have:=(HR.out.lt wb e.symm).1;omega) (by omega))
 have HR7:=Lib.hid hr7
 have HF7:=Lib.hid (HF.out.grown hg7 (fun x hx hlt=>by
  rcases HN.out x (List.mem_cons_of_mem _ (mem_obk.2 hx)) with h|h
  ·exact h
  ·omega))
 have HN7:=Lib.hid (HN.out.row hw7 HF.out.size)
 have hl7:wb<w7.heap.size:=by have:=hb7.size;omega
 have k0:=HO7.out.1 0 _ rfl
 have f0:=HO7.out.2 0
 have k3:=HO7.out.1 3 _ rfl
 have f3:=HO7.out.2 3
 have q3:IntKind.i64.wrap (8*(m:Int))=8*(m:Int):=IntWalk.i64_in _ (by omega)
 clear hr7 hb7 hg7 hw7
 go_upto_region 2 with (fail)
 have HO8:=Lib.hid (HO7.out.set 0 (.slice a7 (q+m) c7) (by simp))
 have HR8:=Lib.hid (HR7.out.other (c:=wb) (by omega) 0 (.slice a7 (q+m) c7))
 have HF8:=Lib.hid (HF7.out.setCell (p:=⟨wb,0,none⟩) (.inl hwbF) (.slice a7 (q+m) c7))
 have hl8:wb<(w7.setCell ⟨wb,0,none⟩ (.slice a7 (q+m) c7)).heap.size:=by simpa using hl7
 clear k0 f0 k3 f3
 generalize w7.setCell ⟨wb,0,none⟩ (.slice a7 (q+m) c7)=w8 at*
 simp only[List.set_cons_succ,List.set_cons_zero] at HO8
 have k3:=HO8.out.1 3 _ rfl
 have f3:=HO8.out.2 3
 go_wp2_with (fail)
 go_end0
 refine⟨rfl,_,⟨_,out++l,0,0,_,rfl,HO8.out.set 3 _ (by simp),by simpa using hl8,?_,?_,by decide,by decide,?_⟩,HF8.out.setCell (p:=⟨wb,3,none⟩) (.inl hwbF) _,HN7.out⟩
 ·rw[List.length_append,bC_app,HQ.out,←HM.out]
  exact HR8.out.other (c:=wb) (by omega) 3 _
 ·intro x hx
  rcases List.mem_append.1 hx with hx|hx
  ·exact h4 x hx
  ·exact HB.out x hx
 ·rw[HT.out,byts_app]
  simp[lsb]
set_option maxHeartbeats 1000000 in
theorem take_any (F:List Nat) (wb:Nat) (S:List Bool) (w:World) (h:Wr F w wb S):
  Calls Tryz.prog 30 #[.pointer (some ⟨wb,0,none⟩)] w fun e w'=> ∃v out part n,e= .returned v∧S=byts out++lsb part n∧n<8∧(∀x∈out,x<256)∧Row (wb+1) 5 1 w' v out.length (bC out)∧Wr [wb] w' wb (lsb part n)∧Fr [wb] w w'∧F=wb::obk v:=by
 obtain⟨va,out,part,k,ln,rfl,h1,h2,h3,h4,h5,h6,h7⟩:=h
 have k0:=h1.1 0 _ rfl
 have f0:=h1.2 0
 obtain⟨oa,oc,rfl,_⟩:=h3.form
 have HO:=Lib.hid h1
 have HR:=Lib.hid h3
 have HS:=Lib.hid h7
 obtain⟨q,hq⟩: ∃z,out.length=z:=⟨_,rfl⟩
 rw[hq] at HR HO k0
 have HQ:=Lib.hid hq
 clear h1 h3 h7 hq
 go_enter Tryz.func30,Tryz.ntmps30
 go_wp2_with (fail)
 go_ret
 refine⟨_,out,part,k,rfl,HS.out,h5,h4,?_,⟨.slice none 0 0,[],part,k,ln,rfl,HO.out.set 0 _ (by simp),by simpa using h2,Row.nil,fun x hx=>(by cases hx),h5,h6,rfl⟩,(Fr.refl _ w).setCell (p:=⟨wb,0,none⟩) (.inl (by simp)) _,by rw[HQ.out];rfl⟩
 rw[HQ.out]
 exact HR.out.other (c:=wb) (by omega) 0 _
theorem newW_any (w:World):Calls Tryz.prog 22 #[] w fun e w'=> ∃wb,e= .returned (.pointer (some ⟨wb,0,none⟩))∧w.heap.size≤wb∧Wr [wb] w' wb []∧Below w.heap.size w w':=by
 go_enter Tryz.func22,Tryz.ntmps22
 go_wp2_with (fail)
 go_ret
 refine⟨w.heap.size,rfl,Nat.le_refl _,⟨.slice none 0 0,[],0,0,0,rfl,Own.new_at w _ _ _ rfl,by simp,Row.nil,fun x hx=>(by cases hx),by decide,by decide,rfl⟩,(Below.refl _ _).alloc (Nat.le_refl _) _⟩
end Go.Proofs.YtmdgeoalamancaaGreatDoor
namespace Go.Proofs.YtmdgeoalamancaaGreatDoor
open Go.RowKit
open Bt
def Rd (F:List Nat) (w:World) (rb:Nat) (R:List Bool):Prop:=
 ∃(v:Value) (buf:List Nat) (p:Nat) (gone:Int),F=rb::obk v∧Own w rb [v,.int .i64 (p:Nat),.int .i64 gone]∧rb<w.heap.size∧Row (rb+1) 5 1 w v buf.length (bC buf)∧(∀x∈buf,x<256)∧p≤8*buf.length∧R=(byts buf).drop p∧buf.length≤100000000
theorem Rd.fr {F G:List Nat} {w w':World} {rb:Nat} {R:List Bool} (h:Rd F w rb R) (hf:Fr G w w') (hd: ∀k∈F,k ∉ G):Rd F w' rb R:=by
 obtain⟨v,buf,p,gone,rfl,h1,h2,h3,h4,h5,h6,h7⟩:=h
 exact⟨v,buf,p,gone,rfl,h1.fr hf h2 (hd rb (by simp)),Nat.lt_of_lt_of_le h2 hf.size,h3.fr hf (fun k hk=>hd k (by simp[hk])),h4,h5,h6,h7⟩
theorem Rd.below {F:List Nat} {w w':World} {rb:Nat} {R:List Bool} (h:Rd F w rb R) (hb:Below w.heap.size w w'):Rd F w' rb R:=h.fr (Fr.of_below (F:=[]) hb) (fun _ _ h=>by cases h)
theorem Rd.lt {F:List Nat} {w:World} {rb:Nat} {R:List Bool} (h:Rd F w rb R): ∀k∈F,rb≤k∧k<w.heap.size:=by
 obtain⟨v,buf,p,gone,rfl,h1,h2,h3,_⟩:=h
 intro k hk
 rcases List.mem_cons.1 hk with rfl|hk
 ·exact⟨Nat.le_refl _,h2⟩
 ·have:=h3.lt k (mem_obk.1 hk)
  exact⟨by omega,this.2⟩
theorem newR_any (w:World):Calls Tryz.prog 23 #[] w fun e w'=> ∃rb,e= .returned (.pointer (some ⟨rb,0,none⟩))∧w.heap.size≤rb∧Rd [rb] w' rb []∧Below w.heap.size w w':=by
 go_enter Tryz.func23,Tryz.ntmps23
 go_wp2_with (fail)
 go_ret
 refine⟨w.heap.size,rfl,Nat.le_refl _,⟨.slice none 0 0,[],0,0,rfl,Own.new_at w _ _ _ rfl,by simp,Row.nil,fun x hx=>(by cases hx),Nat.le_refl _,rfl,by decide⟩,(Below.refl _ _).alloc (Nat.le_refl _) _⟩
set_option maxHeartbeats 1000000 in
theorem left_any (F:List Nat) (rb:Nat) (R:List Bool) (w:World) (h:Rd F w rb R):
  Calls Tryz.prog 94 #[.pointer (some ⟨rb,0,none⟩)] w fun e w'=>e= .returned (.int .i64 (R.length:Nat))∧Below w.heap.size w w':=by
 obtain⟨va,buf,p,gone,rfl,h1,h2,h3,h4,h5,h6,h7⟩:=h
 have k0:=h1.1 0 _ rfl
 have k1:=h1.1 1 _ rfl
 obtain⟨a,c,rfl,_⟩:=h3.form
 have hR:R.length=8*buf.length-p:=by rw[h6,List.length_drop,byts_len]
 have q1:IntKind.i64.wrap (8*(buf.length:Int))=8*(buf.length:Int):=IntWalk.i64_in _ (by omega)
 have q2:IntKind.i64.wrap (8*(buf.length:Int)-(p:Int))=(R.length:Int):=by rw[IntWalk.i64_in _ (by omega)];omega
 clear h1 h3 h6 hR
 go_enter Tryz.func94,Tryz.ntmps94
 go_upto_region 1 with (fail)
 go_quiet (fail)
 go_wp2_with (fail)
 go_ret
 exact⟨by rfl,below_drewN (Below.refl _ _) _⟩
theorem gap_neg (p:Nat):bits .and .i64 (-(p:Int)) 7=((Mc.gap p:Nat):Int):=by
 unfold bits Mc.gap
 have e1:(BitVec.ofInt 64 (-(p:Int))&&& BitVec.ofInt 64 7).toNat=(8-p%8)%8:=by
  rw[BitVec.toNat_and,show (BitVec.ofInt 64 7).toNat=2^3-1 by decide,Nat.and_two_pow_sub_one_eq_mod,BitVec.toNat_ofInt]
  omega
 show IntKind.i64.wrap (((BitVec.ofInt 64 (-(p:Int))&&& BitVec.ofInt 64 7).toNat:Nat):Int)=_
 rw[e1,IntWalk.i64_in _ (by omega)]
set_option maxHeartbeats 1000000 in
theorem ralign_any (F:List Nat) (rb:Nat) (R:List Bool) (w:World) (h:Rd F w rb R):
  Calls Tryz.prog 87 #[.pointer (some ⟨rb,0,none⟩)] w fun e w'=>e= .returned (.int .i64 (R.length%8:Nat))∧Rd F w' rb (R.drop (R.length%8))∧Fr [rb] w w':=by
 obtain⟨va,buf,p,gone,rfl,h1,h2,h3,h4,h5,h6,h7⟩:=h
 have k1:=h1.1 1 _ rfl
 have f1:=h1.2 1
 have hR:R.length=8*buf.length-p:=by rw[h6,List.length_drop,byts_len]
 have hg:Mc.gap p=R.length%8:=by unfold Mc.gap;omega
 have x1:=gap_neg p
 rw[hg] at x1
 have q0:IntKind.i64.wrap (-(p:Int))= -(p:Int):=IntWalk.i64_in _ (by omega)
 obtain⟨G,hG⟩: ∃z,R.length%8=z:=⟨_,rfl⟩
 rw[hG] at x1 hg ⊢
 have q1:IntKind.i64.wrap ((p:Int)+(G:Int))=((p+G:Nat):Int):=by rw[IntWalk.i64_in _ (by omega)];omega
 have HO:=Lib.hid h1
 have HR:=Lib.hid h3
 have HE:Hid (R.drop G=(byts buf).drop (p+G)):=Lib.hid (by rw[h6,List.drop_drop])
 have hpg:p+G≤8*buf.length:=by omega
 clear h1 h3 h6
 go_enter Tryz.func87,Tryz.ntmps87
 go_wp2_with (fail)
 go_ret
 exact⟨by rfl,⟨va,buf,p+G,gone,rfl,HO.out.set 1 _ (by simp),by simpa using h2,HR.out.other (c:=rb) (by omega) 1 _,h4,hpg,HE.out,h7⟩,(Fr.refl _ w).setCell (p:=⟨rb,1,none⟩) (.inl (by simp)) _⟩
set_option maxHeartbeats 1000000 in
theorem skip_any (F:List Nat) (rb:Nat) (R:List Bool) (n:Nat) (w:World) (h:Rd F w rb R) (hn:n≤R.length):
  Calls Tryz.prog 135 #[.pointer (some ⟨rb,0,none⟩),.int .i64 (n:Nat)] w fun e w'=>e= .returned (.bool true)∧Rd F w' rb (R.drop n)∧Fr [rb] w w':=by
 have HLE:=Lib.hid (left_any F rb R w h)
 have HH:=Lib.hid h
 have d1:decide ((n:Int)<0)=false:=decide_eq_false (by omega)
 have d2:decide ((R.length:Int)<(n:Int))=false:=decide_eq_false (by omega)
 have d3:decide (R.length<n)=false:=decide_eq_false (by omega)
 clear h
 go_enter Tryz.func135,Tryz.ntmps135
 go_wp2_with (fail)
 refine HLE.out.mono ?_
 rintro e w1 ⟨rfl,hb1⟩
 obtain⟨va,buf,p,gone,rfl,h1,h2,h3,h4,h5,h6,h7⟩:=HH.out.below hb1
 have HF:=Lib.hid (Fr.of_below (F:=[rb]) hb1)
 have k1:=h1.1 1 _ rfl
 have f1:=h1.2 1
 have hR:R.length=8*buf.length-p:=by rw[h6,List.length_drop,byts_len]
 have q1:IntKind.i64.wrap ((p:Int)+(n:Int))=((p+n:Nat):Int):=by rw[IntWalk.i64_in _ (by omega)];omega
 have HO:=Lib.hid h1
 have HR:=Lib.hid h3
 have HE:Hid (R.drop n=(byts buf).drop (p+n)):=Lib.hid (by rw[h6,List.drop_drop])
 have hpg:p+n≤8*buf.length:=by omega
 clear h1 h3 h6 hR hb1 HLE HH
 go_wp2_with (fail)
 go_ret
 exact⟨by rfl,⟨va,buf,p+n,gone,rfl,HO.out.set 1 _ (by simp),by simpa using h2,HR.out.other (c:=rb) (by omega) 1 _,h4,hpg,HE.out,h7⟩,HF.out.setCell (p:=⟨rb,1,none⟩) (.inl (by simp)) _⟩
end Go.Proofs.YtmdgeoalamancaaGreatDoor
namespace Go.Proofs.YtmdgeoalamancaaGreatDoor
open Go.RowKit
open Bt
theorem val_peek (buf:List Nat) (p n:Nat) (hn:n≤32):val (byts ((buf.drop (p/8)).take 5))/2^(p%8)%2^n=val (((byts buf).drop p).take n):=by
 have e1:(byts buf).drop p=(byts (buf.drop (p/8))).drop (p%8):=by
  rw[←byts_drop,List.drop_drop]
  congr 1
  omega
 rw[e1,val_take,val_drop,←byts_take,val_take]
 have h:p%8+n≤8*5:=by omega
 generalize val (byts (buf.drop (p/8)))=X
 generalize p%8=r at*
 rw[←Nat.mod_mul_right_div_self,←Nat.mod_mul_right_div_self,←Nat.pow_add]
 congr 1
 exact Nat.mod_mod_of_dvd _ (Nat.pow_dvd_pow 2 h)
theorem bC_drop (l:List Nat) (k:Nat):(bC l).drop k=bC (l.drop k):=by unfold bC;rw[List.map_drop]
theorem bC_take (l:List Nat) (k:Nat):(bC l).take k=bC (l.take k):=by unfold bC;rw[List.map_take]
theorem row_part {w:World} {base g c n:Nat} {l:List Nat} (h:Row base 5 1 w (.slice (some ⟨g,0,none⟩) n c) n (bC l)) (hn:n=l.length) {o m c':Nat} (hm:o+m≤n) (hc:m≤c'):Sl w w.heap.size 1 (.slice (some ⟨g,o,none⟩) m c') m (bC ((l.drop o).take m)):=by
 refine⟨by rw[bC_len,List.length_take,List.length_drop];omega,_,_,rfl,hc,?_⟩
 by_cases h0:m=0
 ·exact .inl ⟨h0,fun h=>by cases h⟩
 ·refine .inr ⟨g,o,rfl,(h.lt g rfl).2,fun j u hj=> ?_⟩
  rw[←bC_take,←bC_drop,List.getElem?_take] at hj
  split at hj
  ·rw[List.getElem?_drop] at hj
   have:=sl_same h.sl (by omega) _ _ hj
   rwa [Nat.zero_add] at this
  ·cases hj
set_option maxHeartbeats 2000000 in
theorem peek_any (F:List Nat) (rb:Nat) (R:List Bool) (n:Nat) (w:World) (h:Rd F w rb R) (hn:n≤32):
  Calls Tryz.prog 130 #[.pointer (some ⟨rb,0,none⟩),.int .i64 (n:Nat)] w fun e w'=>e= .returned (.tuple #[.int .u32 (val (R.take n):Nat),.bool (decide (n≤R.length))])∧Below w.heap.size w w':=by
 have HLE:=Lib.hid (fun (W:World) (hW:Below w.heap.size w W)=>left_any F rb R W (h.below hW))
 obtain⟨va,buf,p,gone,rfl,h1,h2,h3,h4,h5,h6,h7⟩:=h
 have d1:decide ((n:Int)<0)=false:=decide_eq_false (by omega)
 have d2:decide ((32:Int)<(n:Int))=false:=decide_eq_false (by omega)
 have d3:decide (32<n)=false:=decide_eq_false (by omega)
 have k0:=h1.1 0 _ rfl
 have k1:=h1.1 1 _ rfl
 have HVP:=Lib.hid (val_peek buf p n hn)
 have HR6:=Lib.hid h6
 have HO:=Lib.hid h1
 have HRW:=Lib.hid h3
 obtain⟨a,c,rfl,hcap⟩:=h3.form
 obtain⟨L,hL⟩: ∃z,buf.length=z:=⟨_,rfl⟩
 have HL:=Lib.hid hL
 rw[hL] at HRW HO k0 h5 h7 hcap
 have t1:((p:Nat):Int).tdiv 8=((p/8:Nat):Int):=by rw[Int.tdiv_eq_ediv_of_nonneg (by omega)];rfl
 obtain⟨f,hf⟩: ∃z,p/8=z:=⟨_,rfl⟩
 rw[hf] at t1 HVP
 have hfL:f≤L:=by omega
 have q1:IntKind.i64.wrap ((f:Int)+5)=((f+5:Nat):Int):=by rw[IntWalk.i64_in _ (by omega)];omega
 obtain⟨E,hE⟩: ∃z,min (f+5) L=z:=⟨_,rfl⟩
 have qE:(if (L:Int)<(f:Int)+5 then (L:Int) else (f:Int)+5)=((E:Nat):Int):=by split<;>omega
 have hfE:f≤E:=by omega
 have hEL:E≤L:=by omega
 obtain⟨M,hM⟩: ∃z,E-f=z:=⟨_,rfl⟩
 have hM5:M≤5:=by omega
 have HPT:Hid (((buf.drop f).take 5).length=M):=Lib.hid (by rw[List.length_take,List.length_drop];omega)
 have HSL:Hid (Sl w w.heap.size 1 (.slice (if c=f then a else Option.map (fun x=>x.add f) a) M (c-f)) M (bC ((buf.drop f).take 5))):=Lib.hid (by
  have hpl:(bC ((buf.drop f).take 5)).length=M*1:=by rw[bC_len,HPT.out,Nat.mul_one]
  rcases row_form HRW.out with ⟨hv,h0,_⟩|⟨g,c0,hv,_,_,_⟩
  ·injection hv with hv1 _ hv2
   subst hv1 hv2
   refine⟨hpl,_,_,rfl,by omega,.inl ⟨by omega,fun _=>by omega⟩⟩
  ·injection hv with hv1 _ hv2
   subst hv1 hv2
   by_cases h0:M=0
   ·refine⟨hpl,_,_,rfl,by omega,.inl ⟨h0,fun h=> ?_⟩⟩
    split at h<;>cases h
   ·rw[if_neg (by omega)]
    show Sl w w.heap.size 1 (.slice (some ((⟨g,0,none⟩:Addr).add f)) M (c-f)) M _
    rw[add_plain,Nat.zero_add]
    have:=row_part HRW.out HL.out.symm (o:=f) (m:=M) (c':=c-f) (by omega) (by omega)
    rw[show (buf.drop f).take M=(buf.drop f).take 5 by
     have h5:=HPT.out
     rw[List.length_take] at h5
     by_cases h6:5≤(buf.drop f).length
     ·rw[show M=5 by omega]
     ·rw[List.take_of_length_le (by omega),List.take_of_length_le (by omega)]] at this
    exact this)
 have HBT:Hid (∀x∈(buf.drop f).take 5,x<256):=Lib.hid (fun x hx=>h4 x (List.mem_of_mem_drop (List.mem_of_mem_take hx)))
 obtain⟨pt,hpt⟩: ∃z,(buf.drop f).take 5=z:=⟨_,rfl⟩
 rw[hpt] at HPT HSL HBT HVP
 have qM:((E:Nat):Int).toNat-f=M:=by omega
 clear h1 h3 h6 hL hE hM hpt
 go_enter Tryz.func130,Tryz.ntmps130
 go_upto_region 5 with (fail)
 go_quiet (fail)
 have HB1:=Lib.hid (below_drewN (Below.refl w.heap.size w) nq)
 clear k0 k1 qE q1 t1
 generalize (if c=f then a else Option.map (fun x=>x.add f) a)=A0 at*
 generalize w.drewN nq=w1 at*
 go_wp2_with (fail)
 go_loopw [7,36] (fun x i wr=> ∃j:Nat,i= .int .i64 j∧j≤M∧x= .int .u64 (val (byts (pt.take j)):Nat)∧Hid (Below w.heap.size w wr)) (fun _ i _=>M-(intOf i).toNat)
 case atStart=>exact⟨0,rfl,Nat.zero_le _,rfl,HB1⟩
 case round=>
  obtain⟨j,rfl,hj,rfl,HB⟩:=hrel
  obtain⟨wo,rfl⟩: ∃z:World,z=wr:=⟨_,rfl⟩
  by_cases hlt:j<M
  ·have d4:decide (j<M)=true:=decide_eq_true hlt
   have d5:decide ((j:Int)<(M:Int))=true:=decide_eq_true (by omega)
   have q1:IntKind.i64.wrap ((j:Int)+1)=(j:Int)+1:=IntWalk.i64_in _ (by omega)
   have q8:IntKind.i64.wrap (8*(j:Int))=((8*j:Nat):Int):=by rw[IntWalk.i64_in _ (by omega)];omega
   have hji:(j:Int)<(M:Int):=by omega
   obtain⟨b,off,rfl,_⟩:=sl_cells HSL.out (by omega)
   obtain⟨x,hx⟩: ∃x,pt[j]? =some x:=⟨_,List.getElem?_eq_getElem (by rw[HPT.out];exact hlt)⟩
   have k2:=sl_same (HSL.out.below HB.out) (by omega) j _ (bC_get hx)
   have hx256:=HBT.out x (List.mem_of_getElem? hx)
   have HNX:Hid (val (byts (pt.take (j+1)))=val (byts (pt.take j))+x*2^(8*j)):=Lib.hid (by
    rw[List.take_add_one,hx,byts_app,val_app,byts_len,List.length_take,HPT.out,Nat.min_eq_left hj]
    show _+2^(8*j)*val (byts [x])=_
    rw[byts_one,val_lsb,Nat.mod_eq_of_lt hx256,Nat.mul_comm])
   have hvl:val (byts (pt.take j))<2^(8*j):=by
    have:=val_lt (byts (pt.take j))
    rwa [byts_len,List.length_take,HPT.out,Nat.min_eq_left hj] at this
   have h40:2^(8*j)≤4294967296:=Nat.le_trans (Nat.pow_le_pow_right (by decide) (show 8*j≤32 by omega)) (by decide)
   have hxm:x*2^(8*j)≤255*4294967296:=Nat.mul_le_mul (by omega) h40
   have hor:=or_u64 (val (byts (pt.take j))) x (8*j) hvl (by omega)
   have x0:((x:Nat):Int)%(18446744073709551616:Int)=((x:Nat):Int):=by omega
   have xw:IntKind.u64.wrap (((x:Nat):Int)*(2:Int)^(8*j))=((x*2^(8*j):Nat):Int):=by
    rw[show (((x:Nat):Int)*(2:Int)^(8*j))=((x*2^(8*j):Nat):Int) by push_cast;rfl]
    exact u64_wrap _ (by omega)
   obtain⟨V,hV⟩: ∃z,val (byts (pt.take j))=z:=⟨_,rfl⟩
   obtain⟨Z,hZ⟩: ∃z,x*2^(8*j)=z:=⟨_,rfl⟩
   rw[hV,hZ] at hor HNX
   rw[hZ] at xw
   rw[hV]
   obtain⟨Y,hY⟩: ∃z,V+Z=z:=⟨_,rfl⟩
   rw[hY] at hor HNX
   clear hx hV hZ hY hvl h40 hxm
   go_wp2_with (fail)
   go_roundw
   case rel=>exact⟨j+1,rfl,hlt,by rw[HNX.out],HB⟩
   case measure=>simp[intOf]<;>omega
  ·have d4:decide (j<M)=false:=decide_eq_false hlt
   have d5:decide ((j:Int)<(M:Int))=false:=decide_eq_false (by omega)
   obtain rfl:j=M:=by omega
   have k1:=(HO.out.below HB.out h2).1 1 _ rfl
   rw[List.take_of_length_le (by rw[HPT.out];exact Nat.le_refl _)]
   have hvl:val (byts pt)<2^40:=by
    have h8:=val_lt (byts pt)
    rw[byts_len,HPT.out] at h8
    exact Nat.lt_of_lt_of_le h8 (Nat.pow_le_pow_right (by decide) (by omega))
   obtain⟨V,hV⟩: ∃z,val (byts pt)=z:=⟨_,rfl⟩
   rw[hV] at HVP hvl ⊢
   have t2:((p:Nat):Int).tmod 8=((p%8:Nat):Int):=by rw[Int.tmod_eq_emod_of_nonneg (by omega)];rfl
   obtain⟨r,hr⟩: ∃z,p%8=z:=⟨_,rfl⟩
   have hr8:r<8:=by omega
   rw[hr] at t2 HVP
   have t3:((V:Nat):Int)/(2:Int)^r=((V/2^r:Nat):Int):=by push_cast;rfl
   have hY:V/2^r≤V:=Nat.div_le_self _ _
   obtain⟨Y,hY0⟩: ∃z,V/2^r=z:=⟨_,rfl⟩
   rw[hY0] at t3 hY HVP
   have hp1:2^n≤4294967296:=Nat.le_trans (Nat.pow_le_pow_right (by decide) hn) (by decide)
   have hp2:0<2^n:=Nat.two_pow_pos n
   have x1:IntKind.u64.wrap ((2:Int)^n)=((2^n:Nat):Int):=by
    rw[show ((2:Int)^n)=((2^n:Nat):Int) by push_cast;rfl]
    exact u64_wrap _ (by omega)
   have x2:IntKind.u64.wrap (((2^n:Nat):Int)-1)=((2^n-1:Nat):Int):=by
    rw[show (((2^n:Nat):Int)-1)=((2^n-1:Nat):Int) by omega]
    exact u64_wrap _ (by omega)
   have x3:=and_u64 Y n (by omega) (by omega)
   have hQ1:Y%2^n<4294967296:=by have:=Nat.mod_lt Y hp2;omega
   rw[HVP.out,←HR6.out] at x3 hQ1
   obtain⟨W0,hW0⟩: ∃z,val (R.take n)=z:=⟨_,rfl⟩
   rw[hW0] at x3 hQ1
   have HW0:=Lib.hid hW0
   have x4:IntKind.u32.wrap ((W0:Nat):Int)=((W0:Nat):Int):=u32_wrap _ (by omega)
   obtain⟨Q,hQ⟩: ∃z,2^n-1=z:=⟨_,rfl⟩
   rw[hQ] at x2 x3
   obtain⟨P,hP⟩: ∃z,2^n=z:=⟨_,rfl⟩
   rw[hP] at x1 x2
   have hz:=HB.out.size
   clear hV hr hY0 hp1 hp2 hW0 hQ hP
   go_upto_region 11 with (fail)
   refine Mono.region_below (by kernel_rfl) (by kernel_rfl) (by kernel_rfl) ?_
   refine Mono.rgl_val (v:= ?ve0) rfl Mono.rr (fun ρ a W hR hd hf=> ?he0) ?_
   case he0=>
    have e7:=Mono.init_get hf (t:=7) (by kernel_rfl)
    clear hd hf
    (go_simp;try with_reducible rfl)
   refine Mono.rgl_val (v:= ?ve1) rfl Mono.rr (fun ρ a W hR hd hf=> ?he1) ?_
   case he1=>
    have e1:=Mono.init_get hf (t:=1) (by kernel_rfl)
    clear hd hf
    (go_simp;try with_reducible rfl)
   refine Mono.rgl_val (v:= ?ve2) rfl Mono.rr (fun ρ a W hR hd hf=> ?he2) ?_
   case he2=>
    have e57:=Mono.dep_val hd hf (t:=57) (k:=1) (by kernel_rfl) rfl
    clear hd hf
    (go_simp;try with_reducible rfl)
   refine Mono.rgl_val (v:= ?ve3) rfl Mono.rr (fun ρ a W hR hd hf=> ?he3) ?_
   case he3=>
    have e58:=Mono.dep_val hd hf (t:=58) (k:=2) (by kernel_rfl) rfl
    clear hd hf
    (go_simp;try with_reducible rfl)
   refine Mono.rgl_val (v:= ?ve4) rfl Mono.rr (fun ρ a W hR hd hf=> ?he4) ?_
   case he4=>
    have e56:=Mono.dep_val hd hf (t:=56) (k:=0) (by kernel_rfl) rfl
    have e59:=Mono.dep_val hd hf (t:=59) (k:=3) (by kernel_rfl) rfl
    clear hd hf
    (go_simp;try with_reducible rfl)
   refine Mono.rgl_val (v:= ?ve5) rfl Mono.rr (fun ρ a W hR hd hf=> ?he5) ?_
   case he5=>
    have e60:=Mono.dep_val hd hf (t:=60) (k:=4) (by kernel_rfl) rfl
    clear hd hf
    (go_simp;try with_reducible rfl)
   refine Mono.rgl_val (v:= ?ve6) rfl Mono.rr (fun ρ a W hR hd hf=> ?he6) ?_
   case he6=>
    have e1:=Mono.init_get hf (t:=1) (by kernel_rfl)
    clear hd hf
    (go_simp;try with_reducible rfl)
   refine Mono.rgl_val (v:= ?ve7) rfl Mono.rr (fun ρ a W hR hd hf=> ?he7) ?_
   case he7=>
    have e0:=Mono.init_get hf (t:=0) (by kernel_rfl)
    clear hd hf
    (go_simp;try with_reducible rfl)
   refine Mono.rgl_call (fun x _=>x= .int .i64 (R.length:Nat)) rfl Mono.rr (fun _ _ _ h _=>h) (fun ρ a W hR hd hf=> ?he8) ?_
   case he8=>
    have e63:=Mono.dep_val hd hf (t:=63) (k:=7) (by kernel_rfl) rfl
    clear hd hf
    refine⟨_,_,by go_simp;first|rfl|exact⟨rfl,rfl⟩,?_⟩
    exact (HLE.out W (HB.out.trans (hR.mono hz))).mono (by rintro e w' ⟨rfl,hb⟩;exact⟨_,rfl,hb,rfl⟩)
   refine Mono.rgl_val (v:= ?ve9) rfl Mono.rr (fun ρ a W hR hd hf=> ?he9) ?_
   case he9=>
    have e62:=Mono.dep_val hd hf (t:=62) (k:=6) (by kernel_rfl) rfl
    have e64:=Mono.dep_val hd hf (t:=64) (k:=8) (by kernel_rfl) rfl
    clear hd hf
    (go_simp;try with_reducible rfl)
   refine Mono.rgl_val (v:= ?ve10) rfl Mono.rr (fun ρ a W hR hd hf=> ?he10) ?_
   case he10=>
    have e61:=Mono.dep_val hd hf (t:=61) (k:=5) (by kernel_rfl) rfl
    clear hd hf
    (go_simp;try with_reducible rfl)
   refine Mono.rgl_val (v:= ?ve11) rfl Mono.rr (fun ρ a W hR hd hf=> ?he11) ?_
   case he11=>
    have e65:=Mono.dep_val hd hf (t:=65) (k:=9) (by kernel_rfl) rfl
    clear hd hf
    (go_simp;try with_reducible rfl)
   refine Mono.rgl_done rfl (fun ρ W hR ht=> ?_)
   obtain⟨de11,de10,de9,de8,de7,de6,de5,de4,de3,de2,de1,de0,_⟩:=ht
   simp only[List.length_cons,List.length_nil,Nat.reduceAdd] at de0 de1 de2 de3 de4 de5 de6 de7 de8 de9 de10 de11
   simp only[Mono.putAll,Nat.reduceAdd,de0,de1,de2,de3,de4,de5,de6,de7,de8,de9,de10,de11,Act.put,List.setIfInBounds_toArray,List.set_cons_zero,List.set_cons_succ]
   clear de0 de1 de2 de3 de4 de5 de6 de7 de8 de9 de10 de11
   have HB2:=Lib.hid (HB.out.trans (hR.mono hz))
   clear hR
   go_wp2_with (fail)
   go_ret2
   exact⟨by rw[HW0.out];rfl,HB2.out⟩
set_option maxHeartbeats 1000000 in
theorem bits_yes (F:List Nat) (rb:Nat) (R:List Bool) (n:Nat) (w:World) (h:Rd F w rb R) (hn:n≤32) (hl:n≤R.length):
  Calls Tryz.prog 86 #[.pointer (some ⟨rb,0,none⟩),.int .i64 (n:Nat)] w fun e w'=>e= .returned (.tuple #[.int .u32 (val (R.take n):Nat),.bool true])∧Rd F w' rb (R.drop n)∧Fr [rb] w w':=by
 have HPK:=Lib.hid (peek_any F rb R n w h hn)
 rw[show decide (n≤R.length)=true from decide_eq_true hl] at HPK
 have HH:=Lib.hid h
 obtain⟨V,hV⟩: ∃z,val (R.take n)=z:=⟨_,rfl⟩
 rw[hV] at HPK ⊢
 clear h hV
 go_enter Tryz.func86,Tryz.ntmps86
 go_wp2_with (fail)
 refine HPK.out.mono ?_
 rintro e w1 ⟨rfl,hb1⟩
 obtain⟨va,buf,p,gone,rfl,h1,h2,h3,h4,h5,h6,h7⟩:=HH.out.below hb1
 have HF:=Lib.hid (Fr.of_below (F:=[rb]) hb1)
 have k1:=h1.1 1 _ rfl
 have f1:=h1.2 1
 have hR:R.length=8*buf.length-p:=by rw[h6,List.length_drop,byts_len]
 have q1:IntKind.i64.wrap ((p:Int)+(n:Int))=((p+n:Nat):Int):=by rw[IntWalk.i64_in _ (by omega)];omega
 have HO:=Lib.hid h1
 have HR:=Lib.hid h3
 have HE:Hid (R.drop n=(byts buf).drop (p+n)):=Lib.hid (by rw[h6,List.drop_drop])
 have hpg:p+n≤8*buf.length:=by omega
 clear h1 h3 h6 hR hb1 HPK HH
 go_wp2_with (fail)
 go_ret2
 exact⟨by rfl,⟨va,buf,p+n,gone,rfl,HO.out.set 1 _ (by simp),by simpa using h2,HR.out.other (c:=rb) (by omega) 1 _,h4,hpg,HE.out,h7⟩,HF.out.setCell (p:=⟨rb,1,none⟩) (.inl (by simp)) _⟩
set_option maxHeartbeats 1000000 in
theorem bits_no (F:List Nat) (rb:Nat) (R:List Bool) (n:Nat) (w:World) (h:Rd F w rb R) (hn:n≤32) (hl:R.length<n):
  Calls Tryz.prog 86 #[.pointer (some ⟨rb,0,none⟩),.int .i64 (n:Nat)] w fun e w'=>e= .returned (.tuple #[.int .u32 0,.bool false])∧Below w.heap.size w w':=by
 have HPK:=Lib.hid (peek_any F rb R n w h hn)
 rw[show decide (n≤R.length)=false from decide_eq_false (by omega)] at HPK
 clear h
 go_enter Tryz.func86,Tryz.ntmps86
 go_wp2_with (fail)
 refine HPK.out.mono ?_
 rintro e w1 ⟨rfl,hb1⟩
 have HB:=Lib.hid hb1
 clear hb1
 go_wp2_with (fail)
 go_ret2
 exact⟨by rfl,HB.out⟩
end Go.Proofs.YtmdgeoalamancaaGreatDoor
