/- Fixed blocks are written; a head is written. -/
import Derived.Test.YtmdgeoalamancaaGreatDoorZAW
set_option maxRecDepth 100000
set_option linter.unusedVariables false
set_option linter.unusedSimpArgs false
namespace Go.Proofs.YtmdgeoalamancaaGreatDoor
open Go.RowKit
open Bt Can Mc Pk
theorem fixL_len:fixL.length=288:=by decide
theorem fixD_len:fixD.length=32:=by decide
theorem fixL_krf:krf fixL 15=2^15:=by decide
theorem fixD_krf:krf fixD 15=2^15:=by decide
theorem fixL_le: ∀x∈fixL,x≤15:=by decide
theorem fixD_le: ∀x∈fixD,x≤15:=by decide
theorem fixL_pos: ∀x∈fixL,1≤x:=by decide
theorem fixD_pos: ∀x∈fixD,1≤x:=by decide
theorem has_of {l:List Nat} (h: ∀x∈l,1≤x) {s:Nat} (hs:s<l.length):Has l s:=by
 refine⟨hs,?_⟩
 unfold Can.len
 rw[List.getD_eq_getElem?_getD,List.getElem?_eq_getElem hs]
 exact h _ (List.getElem_mem hs)
theorem fix_fit {t:Tk.T} (ho:Tk.Ok t):Fit fixL fixD t:=by
 unfold Fit
 rcases ho with ⟨h1,_,h3⟩|⟨_,h3,h4,h5,h6⟩
 ·rw[if_pos h1]
  exact has_of fixL_pos (by rw[fixL_len];omega)
 ·rw[if_neg (by omega)]
  have h7:=len_part t.l (by omega) h3
  have h8:=dist_part t.d h5 h6
  exact⟨has_of fixL_pos (by rw[fixL_len];omega),has_of fixD_pos (by rw[fixD_len];omega)⟩
def fixedB (f:Bool) (ts:List Tk.T):List Bool:=lsb (b2n f+2) 3++(toksB fixL fixD ts++cb fixL 256)
def PutE (F:List Nat) (w:World) (wb:Nat) (X:List Bool) (e:Ending) (w':World):Prop:=e= .returned (.int .i64 0)∧ ∃F',Wr F' w' wb X∧Fr F w w'∧New F F' w.heap.size
set_option maxHeartbeats 8000000 in
theorem putFixed_any (F:List Nat) (wb n:Nat) (f:Bool) (S:List Bool) (ts:List Tk.T) (vt:Value) (w:World) (h:Wr F w wb S) (hS:S.length≤700000000) (ht:TkB F w ts n vt) (hn:n=ts.length) (hl:n≤1000) (ho: ∀t∈ts,Tk.Ok t) (hG:Gl w) (hF8: ∀k∈F,8≤k):Calls Tryz.prog 84 #[.pointer (some ⟨wb,0,none⟩),vt,.bool f] w (PutE F w wb (S++fixedB f ts)):=by
 have HLT:=Lib.hid (And.intro h.lt hF8)
 have HR:=Lib.hid (rights_any ts n w.heap.size vt w (ht w (Fr.refl _ _)) (Nat.le_refl _) hn (by omega) ho)
 have HG:=Lib.hid hG
 have HT:=Lib.hid ht
 have HW:=Lib.hid h
 have HO:=Lib.hid (And.intro hn ho)
 obtain⟨ta,tc,rfl,_⟩:=(ht w (Fr.refl _ _)).form
 have HFL:=Lib.hid (fun W=>fixl_any W)
 have HFD:=Lib.hid (fun W=>fixd_any W)
 have HFIT:=Lib.hid (fun (t:Tk.T) (ht:t∈ts)=>fix_fit (ho t ht))
 have HEND:Hid (Has fixL 256):=Lib.hid (has_of fixL_pos (by rw[fixL_len];omega))
 have HPT:=Lib.hid (fun F wb S vL vD W=>putTokens_any F wb n 288 32 S ts fixL fixD (.slice ta n tc) vL vD W)
 have HFX:Hid (fixL.length=288∧fixD.length=32∧krf fixL 15≤2^15∧krf fixD 15≤2^15∧(∀x∈fixL,x≤15)∧(∀x∈fixD,x≤15)):=Lib.hid ⟨fixL_len,fixD_len,Nat.le_of_eq fixL_krf,Nat.le_of_eq fixD_krf,fixL_le,fixD_le⟩
 have hEQ:fixedB f ts=lsb (b2n f+2) 3++(toksB fixL fixD ts++cb fixL 256):=rfl
 obtain⟨XB,hXB⟩: ∃z,fixedB f ts=z:=⟨_,rfl⟩
 rw[hXB] at hEQ ⊢
 have HEQ:=Lib.hid hEQ
 obtain⟨L,hL⟩: ∃z,fixL=z:=⟨_,rfl⟩
 obtain⟨D,hD⟩: ∃z,fixD=z:=⟨_,rfl⟩
 rw[hL] at HFL HFIT HEND HPT HFX HEQ
 rw[hD] at HFD HFIT HPT HFX HEQ
 clear hL hD hXB hEQ h ht hn ho hG hF8
 go_enter Tryz.func84,Tryz.ntmps84
 go_wp2_with (fail)
 refine HR.out.mono ?_
 rintro e w1 ⟨rfl,hb1⟩
 have HB1:=Lib.hid hb1
 have HPK:=Lib.hid (putKind_any F wb 1 f S w1 (HW.out.fr (Fr.of_below (F:=[]) hb1) (fun _ _ hm=>by cases hm)) (by omega) (by omega))
 clear hb1 HR
 go_wp2_with (fail)
 refine HPK.out.mono ?_
 rintro e w2 ⟨rfl,F2,hw2,hf2,hn2⟩
 rw[show b2n f+2*1=b2n f+2 from rfl] at hw2
 have HW2:=Lib.hid hw2
 have hf02:Fr F w w2:=(Fr.of_below (F:=F) HB1.out).trans hf2 (fun x hx _=>hx)
 have hn02:New F F2 w.heap.size:=fun k hk=>(hn2 k hk).imp id (fun h=>Nat.le_trans HB1.out.size h)
 have HF2:=Lib.hid hf02
 have HN2:=Lib.hid hn02
 clear hw2 hf2 hn2 hf02 hn02 HPK
 go_wp2_with (fail)
 refine (HFL.out w2).mono ?_
 rintro e w3 ⟨v3,rfl,hr3,hb3⟩
 obtain⟨la,lc,rfl,_⟩:=hr3.form
 have HR3:=Lib.hid hr3
 have HB3:=Lib.hid hb3
 clear hr3 hb3 HFL
 go_wp2_with (fail)
 refine (HFD.out w3).mono ?_
 rintro e w4 ⟨v4,rfl,hr4,hb4⟩
 obtain⟨da,dc,rfl,_⟩:=hr4.form
 have hb24:=HB3.out.trans (hb4.mono HB3.out.size)
 have hf24:Fr F2 w2 w4:=Fr.of_below hb24
 have hlt2:=HW2.out.lt
 have hG4:Gl w4:=HG.out.fr (Wr.step HF2.out HN2.out hf24) HLT.out.2
 have hF28: ∀k∈F2,8≤k:=fun k hk=>by
  rcases HN2.out k hk with h|h
  ·exact HLT.out.2 k h
  ·have:=HG.out.sz;omega
 have HPT2:=Lib.hid (HPT.out F2 wb (S++lsb (b2n f+2) 3) (.slice la 288 lc) (.slice da 32 dc) w4 (HW2.out.fr (Fr.of_below (F:=[]) hb24) (fun _ _ hm=>by cases hm)) (by rw[List.length_append,lsb_len];omega) (fun W hW=>HT.out W (Wr.step HF2.out HN2.out (hf24.trans hW (fun x hx _=>hx)))) HO.out.1 hl HO.out.2 HFIT.out HEND.out (fun W hW=>row_keep (fun k hk=>(hlt2 k hk).2) (HR3.out.below hb4) (Nat.le_refl _) hW) HFX.out.1.symm (by omega) HFX.out.2.2.2.2.1 HFX.out.2.2.1 (fun W hW=>row_keep (fun k hk=>(hlt2 k hk).2) hr4 HB3.out.size hW) HFX.out.2.1.symm (by omega) HFX.out.2.2.2.2.2 HFX.out.2.2.2.1 hG4 hF28)
 have HF4:=Lib.hid (Wr.step HF2.out HN2.out hf24)
 have HB24:=Lib.hid hb24
 clear hr4 hb4 hb24 hf24 hlt2 hG4 hF28 HFD HPT
 go_wp2_with (fail)
 refine HPT2.out.mono ?_
 rintro e w5 ⟨rfl,F5,hw5,hf5,hn5⟩
 have HW5:Hid (Wr F5 w5 wb (S++XB)):=Lib.hid (by rw[HEQ.out,←List.append_assoc];exact hw5)
 have HF5:=Lib.hid (Wr.step HF2.out HN2.out ((Fr.of_below (F:=F2) HB24.out).trans hf5 (fun x hx _=>hx)))
 have HN5:Hid (New F F5 w.heap.size):=Lib.hid (HN2.out.trans (show New F2 F5 w2.heap.size from fun k hk=>(hn5 k hk).imp id (fun h=>Nat.le_trans HB24.out.size h)) HF2.out.size)
 clear hw5 hf5 hn5 HPT2
 go_wp2_with (fail)
 go_ret
 exact⟨rfl,F5,HW5.out,HF5.out,HN5.out⟩
end Go.Proofs.YtmdgeoalamancaaGreatDoor
