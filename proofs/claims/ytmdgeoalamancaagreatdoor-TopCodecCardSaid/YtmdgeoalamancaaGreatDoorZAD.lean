/- What the codec's code finds: the package's own tables. Checksums: Update, multiply, shift, Combine, Digest. What an object owns, and what stays where others are changed. Appends: where the row lies. -/
import Derived.Test.YtmdgeoalamancaaGreatDoorZAA
import Derived.Test.YtmdgeoalamancaaGreatDoorZAB
import Derived.Test.YtmdgeoalamancaaGreatDoorZAC
import Derived.Lib.Hide
import Derived.BigQuiet
import Derived.Deep.QuietTactic
import Derived.BigRegion
import Derived.Deep.DeepCutAuto
import Derived.Deep.Cut
import Derived.Deep.RegionLaw
import Derived.IntWalk
import Derived.OneCell
import Derived.Laws.Rows
set_option maxRecDepth 100000
set_option linter.unusedVariables false
set_option linter.unusedSimpArgs false
namespace Go.Proofs.YtmdgeoalamancaaGreatDoor
open Go.RowKit
def tn (a:BitVec 32):Nat:=a.toNat
theorem tn_lt (a:BitVec 32):tn a<4294967296:=a.isLt
structure Gl (w:World):Prop where
 sz:8≤w.heap.size
 steps: ∀i,i<16→w.cell? ⟨0,i,none⟩=some (.int .u32 (tn (Crc.tab i):Nat))
 lB: ∀i,i<29→w.cell? ⟨3,i,none⟩=some (.int .i64 (Mc.lB.getD i 0:Nat))
 lX: ∀i,i<29→w.cell? ⟨4,i,none⟩=some (.int .i64 (Mc.lX.getD i 0:Nat))
 dB: ∀i,i<30→w.cell? ⟨5,i,none⟩=some (.int .i64 (Mc.dB.getD i 0:Nat))
 odr: ∀i,i<19→w.cell? ⟨2,i,none⟩=some (.int .i64 (Mc.odr.getD i 0:Nat))
theorem Gl.below {w w':World} (h:Gl w) (hb:Below w.heap.size w w'):Gl w':=by
 have hs:=h.sz
 refine⟨Nat.le_trans h.sz hb.size,fun i hi=> ?_,fun i hi=> ?_,fun i hi=> ?_,fun i hi=> ?_,fun i hi=> ?_⟩
 ·exact (hb.cell (p:=⟨0,i,none⟩) (show 0<w.heap.size by omega)).trans (h.steps i hi)
 ·exact (hb.cell (p:=⟨3,i,none⟩) (show 3<w.heap.size by omega)).trans (h.lB i hi)
 ·exact (hb.cell (p:=⟨4,i,none⟩) (show 4<w.heap.size by omega)).trans (h.lX i hi)
 ·exact (hb.cell (p:=⟨5,i,none⟩) (show 5<w.heap.size by omega)).trans (h.dB i hi)
 ·exact (hb.cell (p:=⟨2,i,none⟩) (show 2<w.heap.size by omega)).trans (h.odr i hi)
def bC (l:List Nat):List Value:=l.map fun x=> .int .u8 (x:Nat)
def iC (l:List Nat):List Value:=l.map fun x=> .int .i64 (x:Nat)
theorem bC_len (l:List Nat):(bC l).length=l.length:=by unfold bC;simp
theorem iC_len (l:List Nat):(iC l).length=l.length:=by unfold iC;simp
theorem bC_get {l:List Nat} {j x:Nat} (h:l[j]? =some x):(bC l)[j]? =some (.int .u8 (x:Nat)):=by unfold bC;rw[List.getElem?_map,h];rfl
theorem iC_get {l:List Nat} {j x:Nat} (h:l[j]? =some x):(iC l)[j]? =some (.int .i64 (x:Nat)):=by unfold iC;rw[List.getElem?_map,h];rfl
theorem bC_app (a b:List Nat):bC (a++b)=bC a++bC b:=by unfold bC;simp
theorem iC_app (a b:List Nat):iC (a++b)=iC a++iC b:=by unfold iC;simp
theorem bC_one (l:List Nat): ∀u∈bC l,u.oneCell'=true:=by
 intro u hu
 unfold bC at hu
 obtain⟨x,_,rfl⟩:=List.mem_map.1 hu
 rfl
theorem iC_one (l:List Nat): ∀u∈iC l,u.oneCell'=true:=by
 intro u hu
 unfold iC at hu
 obtain⟨x,_,rfl⟩:=List.mem_map.1 hu
 rfl
theorem sl_cells {w:World} {B size n cap:Nat} {a:Option Addr} {cs:List Value} (h:Sl w B size (.slice a n cap) n cs) (hn:0<n): ∃b off,a=some ⟨b,off,none⟩∧ ∀j u,cs[j]? =some u→w.cell? ⟨b,off+j,none⟩=some u:=by
 obtain⟨b,off,cap',hv,_,_,hc⟩:=h.pos hn
 injection hv with hv
 exact⟨b,off,hv,hc⟩
theorem sl_same {w:World} {B size n cap b off:Nat} {cs:List Value} (h:Sl w B size (.slice (some ⟨b,off,none⟩) n cap) n cs) (hn:0<n): ∀j u,cs[j]? =some u→w.cell? ⟨b,off+j,none⟩=some u:=by
 obtain⟨b',off',hv,hc⟩:=sl_cells h hn
 injection hv with hv
 injection hv with h1 h2
 subst h1 h2
 exact hc
theorem row_form {base e size:Nat} {w:World} {v:Value} {n:Nat} {xs:List Value} (h:Row base e size w v n xs):(v= .slice none 0 0∧n=0∧xs=[])∨ ∃g cap,v= .slice (some ⟨g,0,none⟩) n cap∧n≤cap∧base≤g∧g<w.heap.size:=by
 rcases h.2 with ⟨h1,h2⟩|⟨g,cap,cur,hv,hb,hg,hn,_⟩
 ·subst h1 h2
  exact .inl ⟨rfl,rfl,List.eq_nil_of_length_eq_zero (by simpa using h.1)⟩
 ·exact .inr ⟨g,cap,hv,hn,hb,(World.ownsRow.lt h g (by rw[hv];rfl)).2⟩
theorem info_u8:(Tryz.prog.info? 5).map (fun i=>(i.zero,i.size,i.bytes))=some (some (.int .u8 0),1,1):=by kernel_rfl
theorem info_in:(Tryz.prog.info? 3).map (fun i=>(i.zero,i.size,i.bytes))=some (some (.int .i64 0),1,8):=by kernel_rfl
theorem u32_wrap (x:Nat) (h:x<2^32):IntKind.u32.wrap (x:Int)=(x:Int):=by
 simp[IntKind.wrap,IntKind.signed,IntKind.bits]
 omega
theorem bits_xor32 (a b:BitVec 32):bits .xor .u32 (tn a:Nat) (tn b:Nat)=(tn (a^^^b):Nat):=by
 unfold bits tn
 show IntKind.u32.wrap (((BitVec.ofInt 32 (a.toNat:Nat)^^^BitVec.ofInt 32 (b.toNat:Nat)).toNat:Nat):Int)=_
 rw[show BitVec.ofInt 32 (a.toNat:Nat)=a by simp,show BitVec.ofInt 32 (b.toNat:Nat)=b by simp]
 exact u32_wrap _ (a^^^b).isLt
theorem bits_and32 (a b:BitVec 32):bits .and .u32 (tn a:Nat) (tn b:Nat)=(tn (a&&& b):Nat):=by
 unfold bits tn
 show IntKind.u32.wrap (((BitVec.ofInt 32 (a.toNat:Nat)&&& BitVec.ofInt 32 (b.toNat:Nat)).toNat:Nat):Int)=_
 rw[show BitVec.ofInt 32 (a.toNat:Nat)=a by simp,show BitVec.ofInt 32 (b.toNat:Nat)=b by simp]
 exact u32_wrap _ (a&&& b).isLt
end Go.Proofs.YtmdgeoalamancaaGreatDoor
namespace Go.Proofs.YtmdgeoalamancaaGreatDoor
open Go.RowKit
open Crc
def bw (l:List Nat):List (BitVec 32):=l.map (BitVec.ofNat 32)
theorem not32 (a:BitVec 32):bits .xor .u32 IntKind.u32.max (tn a:Nat)=(tn (~~~ a):Nat):=by
 have:=bits_xor32 (BitVec.allOnes 32) a
 rw[show ((tn (BitVec.allOnes 32):Nat):Int)=IntKind.u32.max from rfl,BitVec.allOnes_xor] at this
 exact this
theorem shr4 (a:BitVec 32):((tn a:Nat):Int)/(16:Int)=((tn (a>>>4):Nat):Int):=by
 unfold tn
 rw[BitVec.toNat_ushiftRight,Nat.shiftRight_eq_div_pow]
 omega
theorem and15 (a:BitVec 32):bits .and .u32 (tn a:Nat) 15=(tn (a&&& 15#32):Nat):=bits_and32 a 15#32
theorem and15_lt (a:BitVec 32):tn (a&&& 15#32)<16:=by
 unfold tn
 rw[BitVec.toNat_and]
 exact Nat.lt_of_le_of_lt Nat.and_le_right (by decide)
theorem tnN (c:Nat) (h:c<256):(c:Int)=(tn (BitVec.ofNat 32 c):Nat):=by
 unfold tn
 rw[BitVec.toNat_ofNat,Nat.mod_eq_of_lt (by omega)]
theorem zn8 (X:BitVec 32):Zn 8 X=((((X>>>4)^^^tab (tn (X&&& 15#32)))>>>4)^^^tab (tn (((X>>>4)^^^tab (tn (X&&& 15#32)))&&& 15#32))):=by
 rw[show (8:Nat)=4+4 from rfl,Zn_add,tab_step X,tab_step]
 rfl
set_option maxHeartbeats 4000000 in
theorem update_any (s:BitVec 32) (l:List Nat) (n:Nat) (v:Value) (B:Nat) (w:World) (h:Sl w B 1 v n (bC l)) (hB:B≤w.heap.size) (hn:n=l.length) (hl:n≤1000000000) (hb: ∀x∈l,x<256) (hG:Gl w):
  Calls Tryz.prog 31 #[.int .u32 (tn s:Nat),v] w fun e w'=>e= .returned (.int .u32 (tn (~~~ updL (~~~ s) (bw l)):Nat))∧Below w.heap.size w w':=by
 obtain⟨a,cap,rfl,hcap⟩:=h.form
 have HS:=Lib.hid (fun (W:World) (hW:Below w.heap.size w W)=>h.below (hW.mono hB))
 have HGL:=Lib.hid (fun (W:World) (hW:Below w.heap.size w W)=>(hG.below hW).steps)
 have HN:=Lib.hid hn
 have HBY:=Lib.hid hb
 have e0:=not32 s
 clear h hn hb hG
 go_enter Tryz.func31,Tryz.ntmps31
 go_wp2_with (fail)
 go_loopw [5,12] (fun x i wr=> ∃j:Nat,i= .int .i64 j∧j≤n∧x= .int .u32 (tn (updL (~~~ s) (bw (l.take j))):Nat)∧Hid (Below w.heap.size w wr)) (fun _ i _=>n-(intOf i).toNat)
 case atStart=>exact⟨0,rfl,Nat.zero_le _,rfl,Lib.hid (Below.refl _ _)⟩
 case round=>
  obtain⟨j,rfl,hj,rfl,HB⟩:=hrel
  obtain⟨wo,rfl⟩: ∃z:World,z=wr:=⟨_,rfl⟩
  by_cases hlt:j<n
  ·have d1:decide (j<n)=true:=decide_eq_true hlt
   have d2:decide ((j:Int)<(n:Int))=true:=decide_eq_true (by omega)
   have q1:IntKind.i64.wrap ((j:Int)+1)=(j:Int)+1:=IntWalk.i64_in _ (by omega)
   have hji:(j:Int)<(n:Int):=by omega
   obtain⟨b,off,rfl,_⟩:=sl_cells (HS.out wo HB.out) (by omega)
   obtain⟨c,hc⟩: ∃c,l[j]? =some c:=⟨_,List.getElem?_eq_getElem (by have:=HN.out;omega)⟩
   have k0:=sl_same (HS.out wo HB.out) (by omega) j _ (bC_get hc)
   have hc256:=HBY.out c (List.mem_of_getElem? hc)
   have hnx:updL (~~~ s) (bw (l.take (j+1)))=upd (updL (~~~ s) (bw (l.take j))) (BitVec.ofNat 32 c):=by
    rw[List.take_add_one,hc]
    unfold bw
    rw[List.map_append,updL_app]
    rfl
   have HNX:=Lib.hid hnx
   obtain⟨V,hV⟩: ∃z,updL (~~~ s) (bw (l.take j))=z:=⟨_,rfl⟩
   rw[hV] at HNX ⊢
   have hcv:=tnN c hc256
   have HC:=Lib.hid hcv
   obtain⟨C,hC⟩: ∃z,BitVec.ofNat 32 c=z:=⟨_,rfl⟩
   rw[hC] at hcv HNX
   rw[hcv] at k0
   have x0:((tn C:Nat):Int)%(4294967296:Int)=((tn C:Nat):Int):=by have:=tn_lt C;omega
   have x1:=bits_xor32 V C
   obtain⟨X,hX⟩: ∃z,V^^^C=z:=⟨_,rfl⟩
   rw[hX] at x1
   have HX:=Lib.hid hX
   have x2:=shr4 X
   have x3:=and15 X
   have l3:=and15_lt X
   obtain⟨I,hI⟩: ∃z,tn (X&&& 15#32)=z:=⟨_,rfl⟩
   rw[hI] at x3 l3
   have g3:=HGL.out wo HB.out I l3
   have x4:=bits_xor32 (X>>>4) (tab I)
   obtain⟨Y,hY⟩: ∃z,(X>>>4)^^^tab I=z:=⟨_,rfl⟩
   rw[hY] at x4
   have x5:=shr4 Y
   have x6:=and15 Y
   have l6:=and15_lt Y
   obtain⟨J,hJ⟩: ∃z,tn (Y&&& 15#32)=z:=⟨_,rfl⟩
   rw[hJ] at x6 l6
   have g6:=HGL.out wo HB.out J l6
   have x7:=bits_xor32 (Y>>>4) (tab J)
   have HZ:Hid (updL (~~~ s) (bw (l.take (j+1)))=(Y>>>4)^^^tab J):=Lib.hid (by
    rw[HNX.out]
    unfold upd
    rw[hX,zn8,hI,hY,hJ])
   obtain⟨R,hR⟩: ∃z,(Y>>>4)^^^tab J=z:=⟨_,rfl⟩
   rw[hR] at x7 HZ
   have l3':(I:Int)<16:=by omega
   have l6':(J:Int)<16:=by omega
   clear hnx hV hcv hC hX hI hY hJ hR hc
   go_wp2_with (fail)
   go_roundw
   case rel=>exact⟨j+1,rfl,hlt,by rw[HZ.out],HB⟩
   case measure=>simp[intOf]<;>omega
  ·have d1:decide (j<n)=false:=decide_eq_false hlt
   have d2:decide ((j:Int)<(n:Int))=false:=decide_eq_false (by omega)
   obtain rfl:j=n:=by omega
   have hnot:=not32 (updL (~~~ s) (bw (l.take j)))
   go_wp2_with (fail)
   go_ret
   refine⟨?_,HB.out⟩
   rw[List.take_of_length_le (by rw[←HN.out];exact Nat.le_refl _)]
   rfl
theorem shl1 (a:BitVec 32):IntKind.u32.wrap (((tn a:Nat):Int)*(2:Int))=((tn (a<<<1):Nat):Int):=by
 unfold tn
 rw[BitVec.toNat_shiftLeft,Nat.shiftLeft_eq]
 have:=a.isLt
 simp[IntKind.wrap,IntKind.signed,IntKind.bits]
theorem shr1 (a:BitVec 32):((tn a:Nat):Int)/(2:Int)=((tn (a>>>1):Nat):Int):=by
 unfold tn
 rw[BitVec.toNat_ushiftRight,Nat.shiftRight_eq_div_pow]
 omega
theorem and_hi (a:BitVec 32):(bits .and .u32 (tn a:Nat) 2147483648 != 0)=a.getLsbD 31:=by
 have h:=bits_and32 a 0x80000000#32
 rw[show ((tn 0x80000000#32:Nat):Int)=2147483648 from rfl] at h
 rw[h]
 rw[show (0x80000000#32:BitVec 32)=BitVec.twoPow 32 31 by decide]
 cases hb:a.getLsbD 31
 ·have:a&&& BitVec.twoPow 32 31=0#32:=by
   rw[BitVec.and_twoPow,hb]
   rfl
  rw[this]
  rfl
 ·have:a&&& BitVec.twoPow 32 31=BitVec.twoPow 32 31:=by
   rw[BitVec.and_twoPow,hb]
   rfl
  rw[this]
  rfl
theorem and_lo (a:BitVec 32):(bits .and .u32 (tn a:Nat) 1 != 0)=a.getLsbD 0:=by
 have h:=bits_and32 a 1#32
 rw[show ((tn 1#32:Nat):Int)=1 from rfl] at h
 rw[h]
 rw[show (1#32:BitVec 32)=BitVec.twoPow 32 0 by decide]
 cases hb:a.getLsbD 0
 ·have:a&&& BitVec.twoPow 32 0=0#32:=by
   rw[BitVec.and_twoPow,hb]
   rfl
  rw[this]
  rfl
 ·have:a&&& BitVec.twoPow 32 0=BitVec.twoPow 32 0:=by
   rw[BitVec.and_twoPow,hb]
   rfl
  rw[this]
  rfl
theorem tn_zero (a:BitVec 32):((tn a:Int) != 0)=(a != 0#32):=by
 unfold tn
 by_cases h:a=0#32
 ·subst h;rfl
 ·have h2:a.toNat≠0:=fun e=>h (BitVec.eq_of_toNat_eq e)
  have h3:(a != 0#32)=true:=by simpa using h
  rw[h3]
  simp
  omega
theorem mulN_zero: ∀(k:Nat) (b p:W),mulN k 0#32 b p=p
 |0,_,_=>rfl
 |k+1,b,p=>by
  unfold mulN
  rw[show (0#32:W)<<<1=0#32 by decide,mulN_zero k]
  rfl
theorem shl_all (a:BitVec 32):a<<<32=0#32:=by
 apply BitVec.eq_of_getLsbD_eq
 intro i hi
 rw[BitVec.getLsbD_shiftLeft]
 simp[hi]
def left (v:Nat):Nat:=(List.range 33).countP fun k=>v*2^k%4294967296 != 0
theorem left_lt (A:BitVec 32) (h:A≠0#32):left (tn (A<<<1))<left (tn A):=by
 have e: ∀k,tn (A<<<1)*2^k%4294967296=tn A*2^(k+1)%4294967296:=fun k=>by
  unfold tn
  rw[BitVec.toNat_shiftLeft,Nat.shiftLeft_eq,Nat.mod_mul_mod,Nat.mul_assoc,←Nat.pow_add,Nat.add_comm 1 k]
 have h0:tn A≠0:=fun q=>h (BitVec.eq_of_toNat_eq q)
 have hlt:=tn_lt A
 have e1:left (tn (A<<<1))=(List.range 33).countP fun k=>tn A*2^(k+1)%4294967296 != 0:=by
  unfold left
  congr 1
  funext k
  rw[e]
 rw[e1,List.range_succ,List.countP_append]
 have e2:left (tn A)=1+(List.range 32).countP fun k=>tn A*2^(k+1)%4294967296 != 0:=by
  unfold left
  rw[List.range_succ_eq_map,List.countP_cons,List.countP_map]
  have:(tn A*2^0%4294967296 != 0)=true:=by
   rw[Nat.pow_zero,Nat.mul_one,Nat.mod_eq_of_lt hlt]
   simpa using h0
  rw[this,Nat.add_comm]
  rfl
 have e3:[32].countP (fun k=>tn A*2^(k+1)%4294967296 != 0)=0:=by
  have:tn A*2^(32+1)%4294967296=0:=by
   rw[show (2:Nat)^(32+1)=4294967296*2 from rfl,Nat.mul_left_comm]
   exact Nat.mul_mod_right _ _
  simp[this]
 omega
set_option maxHeartbeats 4000000 in
theorem multiply_any (a b:BitVec 32) (w:World):
  Calls Tryz.prog 107 #[.int .u32 (tn a:Nat),.int .u32 (tn b:Nat)] w fun e w'=>e= .returned (.int .u32 (tn (mul a b):Nat))∧Below w.heap.size w w':=by
 go_enter Tryz.func107,Tryz.ntmps107
 go_wp2_with (fail)
 go_loopw [0,1,5] (fun x y z wr=> ∃(k:Nat) (A B P:BitVec 32),k≤32∧x= .int .u32 (tn A:Nat)∧y= .int .u32 (tn B:Nat)∧z= .int .u32 (tn P:Nat)∧Hid (A=a<<<k∧mulN (32-k) A B P=mul a b)∧Hid (Below w.heap.size w wr)) (fun x _ _ _=>left (intOf x).toNat)
 case atStart=>exact⟨0,a,b,0#32,Nat.zero_le _,rfl,rfl,rfl,Lib.hid ⟨by simp,rfl⟩,Lib.hid (Below.refl _ _)⟩
 case round=>
  obtain⟨k,A,B,P,hk,rfl,rfl,rfl,HI,HB⟩:=hrel
  obtain⟨wo,rfl⟩: ∃z:World,z=wr:=⟨_,rfl⟩
  by_cases h0:A=0#32
  ·have d1:(((tn A:Nat):Int) != 0)=false:=by rw[tn_zero,h0];rfl
   have HR:Hid (P=mul a b):=Lib.hid (by have:=HI.out.2;rw[h0,mulN_zero] at this;exact this)
   go_wp2_with (fail)
   go_ret
   exact⟨by rw[←HR.out];rfl,HB.out⟩
  ·have d1:(((tn A:Nat):Int) != 0)=true:=by rw[tn_zero];simpa using h0
   have hk2:k<32:=by
    rcases Nat.lt_or_ge k 32 with h|h
    ·exact h
    ·exfalso
     have e:k=32:=by omega
     have:=HI.out.1
     rw[e,shl_all] at this
     exact h0 this
   have HL:=Lib.hid (left_lt A h0)
   have h1:=HI.out.2
   rw[show 32-k=(32-(k+1))+1 by omega] at h1
   unfold mulN at h1
   have h2:A<<<1=a<<<(k+1):=by rw[HI.out.1,BitVec.shiftLeft_add]
   have t1:=and_hi A
   have t2:=and_lo B
   have t3:=shl1 A
   have t4:=shr1 B
   have t5:=bits_xor32 P B
   have t6:=bits_xor32 (B>>>1) poly
   rw[show ((tn poly:Nat):Int)=3988292384 from rfl] at t6
   have hz:Z B=if B.getLsbD 0 then (B>>>1)^^^poly else B>>>1:=rfl
   rw[hz] at h1
   have H1:=Lib.hid h1
   have H2:=Lib.hid h2
   clear h1 h2 hz h0
   cases hh:A.getLsbD 31<;>cases hl:B.getLsbD 0
   all_goals
    rw[hh] at t1 H1
    rw[hl] at t2 H1
    clear hh hl
    have H3:=H1.out
    simp only[if_true,if_false,Bool.false_eq_true] at H3
    have H4:=Lib.hid H3
    clear H3
    go_wp2_with (fail)
    go_roundw
    case rel=>exact⟨k+1,_,_,_,hk2,rfl,rfl,rfl,Lib.hid ⟨H2.out,H4.out⟩,HB⟩
    case measure=>exact HL.out
theorem i64_and1 (n:Nat) (h:n<4611686018427387904):(bits .and .i64 (n:Int) 1 != 0)=decide (n%2=1):=by
 have e:bits .and .i64 (n:Int) 1=((n%2:Nat):Int):=by
  unfold bits
  have e1:(BitVec.ofInt 64 (n:Int)&&& BitVec.ofInt 64 1).toNat=n%2:=by
   rw[BitVec.toNat_and]
   have:(BitVec.ofInt 64 1).toNat=1:=by decide
   rw[this,Nat.and_one_is_mod,BitVec.ofInt_natCast,BitVec.toNat_ofNat,show n%2^64=n from Nat.mod_eq_of_lt (Nat.lt_of_lt_of_le h (by decide))]
  show IntKind.i64.wrap (((BitVec.ofInt 64 (n:Int)&&& BitVec.ofInt 64 1).toNat:Nat):Int)=_
  rw[e1,IntWalk.i64_in _ (by omega)]
 rw[e]
 rcases (show n%2=0∨n%2=1 by omega) with h2|h2<;>rw[h2]<;>rfl
set_option maxHeartbeats 4000000 in
theorem shift_any (v:BitVec 32) (n:Nat) (hn:n<4611686018427387904) (w:World):
  Calls Tryz.prog 63 #[.int .u32 (tn v:Nat),.int .i64 (n:Nat)] w fun e w'=>e= .returned (.int .u32 (tn (Zn (8*n) v):Nat))∧Below w.heap.size w w':=by
 go_enter Tryz.func63,Tryz.ntmps63
 go_wp2_with (fail)
 go_loopw [0,1,5] (fun x y z wr=> ∃(m N:Nat) (V P:BitVec 32),N≤n∧x= .int .u32 (tn V:Nat)∧y= .int .i64 (N:Nat)∧z= .int .u32 (tn P:Nat)∧Hid (P=Zn m one∧Zn (m*N) V=Zn (8*n) v)∧Hid (Below w.heap.size w wr)) (fun _ y _ _=>(intOf y).toNat)
 case atStart=>exact⟨8,n,v,Zn 8 one,Nat.le_refl _,rfl,rfl,by rw[show tn (Zn 8 one)=8388608 by decide];rfl,Lib.hid ⟨rfl,rfl⟩,Lib.hid (Below.refl _ _)⟩
 case round=>
  obtain⟨m,N,V,P,hN,rfl,rfl,rfl,HI,HB⟩:=hrel
  obtain⟨wo,rfl⟩: ∃z:World,z=wr:=⟨_,rfl⟩
  by_cases h0:0<N
  rotate_left
  ·have d1:decide ((0:Int)<(N:Int))=false:=decide_eq_false (by omega)
   have d2:decide (0<N)=false:=decide_eq_false h0
   obtain rfl:N=0:=by omega
   have HR:Hid (V=Zn (8*n) v):=Lib.hid (by have:=HI.out.2;rw[Nat.mul_zero] at this;exact this)
   go_wp2_with (fail)
   go_ret
   exact⟨by rw[←HR.out];rfl,HB.out⟩
  have d1:decide ((0:Int)<(N:Int))=true:=decide_eq_true (by omega)
  have d2:decide (0<N)=true:=decide_eq_true h0
  have t1:=i64_and1 N (by omega)
  have t2:(N:Int).fdiv (2^min (Int.toNat 1) IntKind.i64.bits)=((N/2:Nat):Int):=by
   rw[show (2:Int)^min (Int.toNat 1) IntKind.i64.bits=2 from rfl,Int.fdiv_eq_ediv_of_nonneg _ (by omega)]
   rfl
  have HMV:=Lib.hid (fun W=>multiply_any P V W)
  have HMP:=Lib.hid (fun W=>multiply_any P P W)
  have HP2:Hid (mul P P=Zn (m+m) one):=Lib.hid (by rw[HI.out.1,mul_pow,←Zn_add])
  have HV2:Hid (mul P V=Zn m V):=Lib.hid (by rw[HI.out.1,mul_pow])
  by_cases hodd:N%2=1
  ·have d3:decide (N%2=1)=true:=decide_eq_true hodd
   rw[d3] at t1
   have HF:Hid (Zn ((m+m)*(N/2)) (mul P V)=Zn (8*n) v):=Lib.hid (by
    rw[←HI.out.2,HV2.out,←Zn_add]
    congr 1
    have e:N=2*(N/2)+1:=by omega
    rw[Nat.add_mul]
    conv=>rhs;rw[e,Nat.mul_add,Nat.mul_one,Nat.mul_left_comm]
    omega)
   clear hodd
   go_wp2_with (fail)
   refine (HMV.out wo).mono ?_
   rintro e w1 ⟨rfl,hb1⟩
   have HB1:=Lib.hid (HB.out.trans (hb1.mono HB.out.size))
   clear hb1
   go_wp2_with (fail)
   refine (HMP.out w1).mono ?_
   rintro e w2 ⟨rfl,hb2⟩
   have HB2:=Lib.hid (HB1.out.trans (hb2.mono HB1.out.size))
   clear hb2
   go_wp2_with (fail)
   go_roundw
   case rel=>exact⟨m+m,N/2,_,_,by omega,rfl,rfl,rfl,Lib.hid ⟨HP2.out,HF.out⟩,HB2⟩
   case measure=>simp[intOf]<;>omega
  ·have d3:decide (N%2=1)=false:=decide_eq_false hodd
   rw[d3] at t1
   have HF:Hid (Zn ((m+m)*(N/2)) V=Zn (8*n) v):=Lib.hid (by
    rw[←HI.out.2]
    congr 1
    have e:N=2*(N/2):=by omega
    rw[Nat.add_mul]
    conv=>rhs;rw[e,Nat.mul_left_comm]
    omega)
   clear hodd
   go_wp2_with (fail)
   refine (HMP.out wo).mono ?_
   rintro e w2 ⟨rfl,hb2⟩
   have HB2:=Lib.hid (HB.out.trans (hb2.mono HB.out.size))
   clear hb2
   go_wp2_with (fail)
   go_roundw
   case rel=>exact⟨m+m,N/2,_,_,by omega,rfl,rfl,rfl,Lib.hid ⟨HP2.out,HF.out⟩,HB2⟩
   case measure=>simp[intOf]<;>omega
theorem combine_any (a b:BitVec 32) (n:Nat) (hn:n<4611686018427387904) (w:World):
  Calls Tryz.prog 32 #[.int .u32 (tn a:Nat),.int .u32 (tn b:Nat),.int .i64 (n:Nat)] w fun e w'=>e= .returned (.int .u32 (tn (Zn (8*n) a^^^b):Nat))∧Below w.heap.size w w':=by
 have HSH:=Lib.hid (shift_any a n hn w)
 have t1:=bits_xor32 (Zn (8*n) a) b
 go_enter Tryz.func32,Tryz.ntmps32
 go_wp2_with (fail)
 refine HSH.out.mono ?_
 rintro e w1 ⟨rfl,hb1⟩
 have HB1:=Lib.hid hb1
 clear hb1
 go_wp2_with (fail)
 go_ret
 exact⟨by rfl,HB1.out⟩
end Go.Proofs.YtmdgeoalamancaaGreatDoor
namespace Go.Proofs.YtmdgeoalamancaaGreatDoor
open Go.RowKit
structure Fr (F:List Nat) (a b:World):Prop where
 os:b.os=a.os
 tape:b.tape=a.tape
 output:b.output=a.output
 size:a.heap.size≤b.heap.size
 block: ∀k,k<a.heap.size→k ∉ F→b.heap[k]? =a.heap[k]?
section
variable {F G:List Nat} {a b c:World}
theorem Fr.refl (F:List Nat) (a:World):Fr F a a:=⟨rfl,rfl,rfl,Nat.le_refl _,fun _ _ _=>rfl⟩
theorem Fr.of_below (h:Below a.heap.size a b):Fr F a b:=⟨h.os,h.tape,h.output,h.size,fun k hk _=>h.block k hk⟩
theorem Fr.below (h:Fr F a b) {B:Nat} (hB:B≤a.heap.size) (hF: ∀k∈F,B≤k):Below B a b:=⟨h.os,h.tape,h.output,h.size,fun k hk=>h.block k (by omega) (fun hm=>by have:=hF k hm;omega)⟩
theorem Fr.nil (h:Fr [] a b):Below a.heap.size a b:=h.below (Nat.le_refl _) (fun _ h=>by cases h)
theorem Fr.trans (h:Fr F a b) (k:Fr G b c) (hG: ∀x∈G,x<a.heap.size→x∈F):Fr F a c:=
 ⟨k.os.trans h.os,k.tape.trans h.tape,k.output.trans h.output,Nat.le_trans h.size k.size,fun i hi hn=>(k.block i (Nat.lt_of_lt_of_le hi h.size) (fun hm=>hn (hG i hm hi))).trans (h.block i hi hn)⟩
theorem Fr.weak (h:Fr F a b) (hG: ∀x∈F,x<a.heap.size→x∈G):Fr G a b:=⟨h.os,h.tape,h.output,h.size,fun k hk hn=>h.block k hk (fun hm=>hn (hG k hm hk))⟩
theorem Fr.setCell (h:Fr F a b) {p:Addr} (hp:p.block∈F∨a.heap.size≤p.block) (v:Value):Fr F a (b.setCell p v):=
 ⟨h.os,h.tape,h.output,by simpa[World.setCell] using h.size,fun k hk hn=>(Below.heap_setCell b p v k (by rintro rfl;rcases hp with hp|hp;exact hn hp;omega)).trans (h.block k hk hn)⟩
theorem Fr.alloc (h:Fr F a b) (o:Obj):Fr F a (b.alloc o):=h.trans (Fr.of_below (F:=F) ((Below.refl _ _).alloc (Nat.le_refl _) o)) (fun x hx _=>hx)
theorem Fr.drewN (h:Fr F a b) (n:Nat):Fr F a (b.drewN n):=h.trans (Fr.of_below (F:=F) (below_drewN (Below.refl _ _) n)) (fun x hx _=>hx)
theorem Fr.drew (h:Fr F a b):Fr F a b.drew:=h.trans (Fr.of_below (F:=F) ((Below.refl _ _).drew)) (fun x hx _=>hx)
theorem Fr.grown (h:Fr F a b) {row:Option Nat} (hg:b.grownBy c row) (hr: ∀k,row=some k→k<a.heap.size→k∈F):Fr F a c:=
 h.trans (G:=row.toList) ⟨hg.os,hg.tape,hg.output,hg.size,fun k hk hn=>hg.block k hk (fun e=>hn (by rw[←e];simp))⟩ (fun x hx hlt=>by
  cases row with
  |none=>cases hx
  |some k=>simp at hx;subst hx;exact hr x rfl hlt)
theorem Fr.cell (h:Fr F a b) {p:Addr} (hp:p.block<a.heap.size) (hn:p.block ∉ F):b.cell? p=a.cell? p:=World.cell?_of_block (h.block _ hp hn)
theorem Fr.frozen (h:Fr F a b) {p:Addr} (hp:p.block<a.heap.size) (hn:p.block ∉ F):b.frozen? p=a.frozen? p:=World.frozen?_of_block (h.block _ hp hn)
theorem Own.fr {k:Nat} {cs:List Value} (h:Own a k cs) (hf:Fr F a b) (hk:k<a.heap.size) (hn:k ∉ F):Own b k cs:=
 ⟨fun j v hj=>(hf.cell (p:=⟨k,j,none⟩) hk hn).trans (h.1 j v hj),fun j=>(hf.frozen (p:=⟨k,j,none⟩) hk hn).trans (h.2 j)⟩
def obk (v:Value):List Nat:=v.ownBlock.toList
theorem mem_obk {v:Value} {k:Nat}:k∈obk v↔v.ownBlock=some k:=by
 unfold obk
 cases v.ownBlock<;>simp[eq_comm]
theorem Row.fr {base e size n:Nat} {v:Value} {xs:List Value} (h:Row base e size a v n xs) (hf:Fr F a b) (hn: ∀k∈obk v,k ∉ F):Row base e size b v n xs:=by
 refine⟨h.1,?_⟩
 rcases h.2 with h2|⟨g,cap,cur,hv,hb,hg,hr⟩
 ·exact .inl h2
 ·refine .inr ⟨g,cap,cur,hv,hb,?_,hr⟩
  have hlt:=(h.lt g (by rw[hv];rfl)).2
  rw[hf.block g hlt (hn g (mem_obk.2 (by rw[hv];rfl)))]
  exact hg
theorem Gl.fr (h:Gl a) (hf:Fr F a b) (hF: ∀k∈F,8≤k):Gl b:=by
 have hs:=h.sz
 have hn: ∀g,g<8→g ∉ F:=fun g hg hm=>by have:=hF g hm;omega
 refine⟨Nat.le_trans h.sz hf.size,fun i hi=> ?_,fun i hi=> ?_,fun i hi=> ?_,fun i hi=> ?_,fun i hi=> ?_⟩
 ·exact (hf.cell (p:=⟨0,i,none⟩) (show 0<a.heap.size by omega) (hn _ (show 0<8 by decide))).trans (h.steps i hi)
 ·exact (hf.cell (p:=⟨3,i,none⟩) (show 3<a.heap.size by omega) (hn _ (show 3<8 by decide))).trans (h.lB i hi)
 ·exact (hf.cell (p:=⟨4,i,none⟩) (show 4<a.heap.size by omega) (hn _ (show 4<8 by decide))).trans (h.lX i hi)
 ·exact (hf.cell (p:=⟨5,i,none⟩) (show 5<a.heap.size by omega) (hn _ (show 5<8 by decide))).trans (h.dB i hi)
 ·exact (hf.cell (p:=⟨2,i,none⟩) (show 2<a.heap.size by omega) (hn _ (show 2<8 by decide))).trans (h.odr i hi)
def New (F F':List Nat) (n:Nat):Prop:= ∀k∈F',k∈F∨n≤k
theorem New.refl (F:List Nat) (n:Nat):New F F n:=fun _ h=> .inl h
theorem New.trans {F' F'':List Nat} {n m:Nat} (h:New F F' n) (k:New F' F'' m) (hm:n≤m):New F F'' n:=fun x hx=>by
 rcases k x hx with h1|h1
 ·exact h x h1
 ·exact .inr (by omega)
end
def Wr (F:List Nat) (w:World) (wb:Nat) (S:List Bool):Prop:=
 ∃(v:Value) (out:List Nat) (part n:Nat) (ln:Int),F=wb::obk v∧Own w wb [v,.int .u64 (part:Nat),.int .i64 (n:Nat),.int .i64 ln]∧wb<w.heap.size∧Row (wb+1) 5 1 w v out.length (bC out)∧(∀x∈out,x<256)∧n<8∧part<2^n∧S=Bt.byts out++Bt.lsb part n
theorem Wr.fr {F G:List Nat} {w w':World} {wb:Nat} {S:List Bool} (h:Wr F w wb S) (hf:Fr G w w') (hd: ∀k∈F,k ∉ G):Wr F w' wb S:=by
 obtain⟨v,out,part,n,ln,rfl,h1,h2,h3,h4,h5,h6,h7⟩:=h
 exact⟨v,out,part,n,ln,rfl,h1.fr hf h2 (hd wb (by simp)),Nat.lt_of_lt_of_le h2 hf.size,h3.fr hf (fun k hk=>hd k (by simp[hk])),h4,h5,h6,h7⟩
theorem Wr.lt {F:List Nat} {w:World} {wb:Nat} {S:List Bool} (h:Wr F w wb S): ∀k∈F,wb≤k∧k<w.heap.size:=by
 obtain⟨v,out,part,n,ln,rfl,h1,h2,h3,_⟩:=h
 intro k hk
 rcases List.mem_cons.1 hk with rfl|hk
 ·exact⟨Nat.le_refl _,h2⟩
 ·have:=h3.lt k (mem_obk.1 hk)
  exact⟨by omega,this.2⟩
end Go.Proofs.YtmdgeoalamancaaGreatDoor
namespace Go.Proofs.YtmdgeoalamancaaGreatDoor
open Go.RowKit
theorem append_where {w:World} {base e size t bytes n m c:Nat} {v v':Value} {w':World} {xs news:List Value} {z:Value} {i:TypeInfo} {ty:TypeId} {a:Addr} (ht:Tryz.prog.underlying t=some (.slice e)) (hi:Tryz.prog.info? e=some i) (hz:i.zero=some z) (hsize:i.size=size) (hby:i.bytes=bytes) (hzs:z.cells.size=size) (hsz:0<size)
  (hown:w.ownsRow base e size v n xs) (hl:news.length=m*size) (hnews: ∀j u,news[j]? =some u→w.cell? (a.add j)=some u) (h1: ∀u∈news,u.oneCell'=true) (h63:n+m≤maxLen) (hbytes:(n+m)*bytes≤140737488355328)
  (hr:(Builtin.append_ #[t,t] ty #[v,.slice (some a) m c]).run Tryz.prog w= .ok v' w'):v'.ownBlock=v.ownBlock∨ ∀g,v'.ownBlock=some g→w.heap.size≤g:=by
 rcases hown.2 with ⟨rfl,rfl⟩|⟨g,cap,cur,rfl,hbg,hg,hnc,hcm,hcs,htake⟩
 ·have hx:xs=[]:=List.eq_nil_of_length_eq_zero (by simpa using hown.1)
  subst hx
  obtain⟨v2,w2,hr2,h2,_⟩:=run_append_own (P:=Tryz.prog) w w.heap.size t ty e i z size bytes ht hi hz hsize hby hzs hsz (.slice none 0 0) 0 [] (World.ownsRow_nil _ _ _ _) a m c news hl hnews h1 h63 hbytes (Nat.le_refl _)
  rw[hr] at hr2
  injection hr2 with e1 e2
  subst e1
  exact .inr fun g hg=>(World.ownsRow.lt h2 g hg).1
 ·by_cases hroom:n+m≤cap
  ·have hfit:n*i.size+news.length≤cur.size:=by rw[hl,hcs,hsize,←Nat.add_mul];exact Nat.mul_le_mul_right _ hroom
   have hr2:=run_append_room (P:=Tryz.prog) w t ty e i ht hi g n cap cur hg a m c news (by rw[hsize];exact hl) hnews h1 hroom hfit
   rw[hr] at hr2
   injection hr2 with e1 e2
   subst e1
   exact .inl rfl
  ·obtain⟨v2,w2,hr2,h2,_⟩:=run_append_arg_grows (P:=Tryz.prog) w t ty e i z size bytes ht hi hz hsize hby hzs hsz ⟨g,0,none⟩ n cap xs hown.1 (fun j u hj=>World.ownsRow.cells hown (g:=g) rfl j u hj) a m c news hl hnews (by omega) h63 hbytes
   rw[hr] at hr2
   injection hr2 with e1 e2
   subst e1
   exact .inr fun q hq=>(World.ownsRow.lt h2 q hq).1
theorem step_append_row2 {e size t bytes base n:Nat} {v:Value} {xs:List Value} {z:Value} (ht:Tryz.prog.underlying t=some (.slice e)) (hinfo:(Tryz.prog.info? e).map (fun i=>(i.zero,i.size,i.bytes))=some (some z,size,bytes)) (hzs:z.cells.size=size) (hsz:0<size)
  {ops:Array Oper} {o:Oper} {a:Act} {w:World} {K:Act→World→Prop} {Q:Exit→Act→World→Prop} {E:Prop} (hgd:o.guard=none) (s x:Operand)
  (ho:o.op= .call {callee:= .builtin .append,args:=#[s,x],argTypes:=#[t,t]}) (hs:a.eval s=v) (hown:Row base e size w v n xs)
  {B:Nat} {u:Value} {m:Nat} {news:List Value} (hx:a.eval x=u) (hsl:Sl w B size u (m+1) news) (h1: ∀u∈news,u.oneCell'=true) (hn:n+(m+1)≤1000000000000) (hby:(n+(m+1))*bytes≤140737488355328) (hbase:base≤w.heap.size)
  (h: ∀v' w',Row base e size w' v' (n+(m+1)) (xs++news)→Below base w w'→w.grownBy w' v.ownBlock→(v'.ownBlock=v.ownBlock∨ ∀g,v'.ownBlock=some g→w.heap.size≤g)→K (a.put o.dst v') w'):if Region.wanted o (yielded ops a.tmps)=true then Oper.wp Tryz.prog o a w K Q else E:=by
 have hw:Region.wanted o (yielded ops a.tmps)=true:=by simp[Region.wanted,hgd]
 rw[if_pos hw]
 obtain⟨i0,hi,hz0,hz1,hz2⟩:=info_parts hinfo
 obtain⟨b,off,cap,rfl,hcap,hb,hcells⟩:=hsl.pos (by omega)
 obtain⟨v',w',hr,h2,h3,_⟩:=run_append_own (P:=Tryz.prog) w base t o.type e i0 z size bytes ht hi hz0 hz1 hz2 hzs hsz v n xs hown ⟨b,off,none⟩ (m+1) cap news hsl.1 (fun j u hj=>by rw[add_plain];exact hcells j u hj) h1 (by unfold maxLen;omega) hby hbase
 have hwh:=append_where ht hi hz0 hz1 hz2 hzs hsz hown hsl.1 (fun j u hj=>by rw[add_plain];exact hcells j u hj) h1 (by unfold maxLen;omega) hby hr
 unfold Oper.wp execOp
 simp only[ho,resolve,invoke,builtin,Sem.run_bind,Sem.run_pure,Result.andThen_ok,List.map_toArray,List.map_cons,List.map_nil,hs,hx,hr]
 exact h v' w' h2 ((Below.refl _ _).grown h3 hbase (fun k hk=>(World.ownsRow.lt hown k hk).1)) h3 hwh
theorem append_rowM {e size t bytes base n:Nat} {v:Value} {xs:List Value} {z:Value} {w:World} (ht:Tryz.prog.underlying t=some (.slice e)) (hinfo:(Tryz.prog.info? e).map (fun i=>(i.zero,i.size,i.bytes))=some (some z,size,bytes)) (hzs:z.cells.size=size) (hsz:0<size)
  {ops:Array Oper} {rest:List Oper} {o:Oper} {a:Act} {Q:Exit→Act→World→Prop} (hgd:o.guard=none) (s x:Operand)
  (ho:o.op= .call {callee:= .builtin .append,args:=#[s,x],argTypes:=#[t,t]}) (hs:a.eval s=v) (hown:Row base e size w v n xs)
  {B:Nat} {u:Value} {m:Nat} {news:List Value} (hx:a.eval x=u) (hsl:Sl w B size u m news) (h1: ∀u∈news,u.oneCell'=true) (hn:n+m≤1000000000000) (hby:(n+m)*bytes≤140737488355328) (hbase:base≤w.heap.size)
  (h: ∀v' w',Row base e size w' v' (n+m) (xs++news)→Below base w w'→w.grownBy w' v.ownBlock→(v'.ownBlock=v.ownBlock∨ ∀g,v'.ownBlock=some g→w.heap.size≤g)→wpList Tryz.prog ops Q rest (a.put o.dst v') w'):wpList Tryz.prog ops Q (o::rest) a w:=by
 obtain⟨i0,hi,hz0,hz1,hz2⟩:=info_parts hinfo
 obtain⟨hl,au,cap,rfl,hcap,hor⟩:=hsl
 have key: ∀ad,(∀j u,news[j]? =some u→w.cell? (Addr.add ad j)=some u)→a.eval x= .slice (some ad) m cap→wpList Tryz.prog ops Q (o::rest) a w:=fun ad hcell hx=>by
  obtain⟨v',w',hr,h2,h3,_⟩:=run_append_own (P:=Tryz.prog) w base t o.type e i0 z size bytes ht hi hz0 hz1 hz2 hzs hsz v n xs hown ad m cap news hl hcell h1 (by unfold maxLen;omega) hby hbase
  have hwh:=append_where ht hi hz0 hz1 hz2 hzs hsz hown hl hcell h1 (by unfold maxLen;omega) hby hr
  refine wpList_plain hgd fun K hK=> ?_
  unfold Oper.wp
  simp[execOp,ho,resolve,invoke,builtin,hs,hx,hr,Result.andThen]
  exact hK _ _ (h v' w' h2 ((Below.refl _ _).grown h3 hbase (fun k hk=>(World.ownsRow.lt hown k hk).1)) h3 hwh)
 rcases hor with ⟨h0,hc⟩|⟨b,off,rfl,hb,hcells⟩
 ·subst h0
  have hnil:news=[]:=List.eq_nil_of_length_eq_zero (by simpa using hl)
  subst hnil
  cases au with
  |none=>
   rw[hc rfl] at hx
   refine wpList_append_own_none hgd s x t ho base e i0 size ht hi v n xs hs hown hx ?_
   exact h v w (by simpa using hown) (Below.refl _ _) ⟨rfl,rfl,rfl,Nat.le_refl _,fun _ _ _=>rfl⟩ (.inl rfl)
  |some ad=>exact key ad (fun j u hj=>by simp at hj) hx
 ·exact key ⟨b,off,none⟩ (fun j u hj=>by rw[add_plain];exact hcells j u hj) hx
theorem Own.grown2 {w w':World} {b:Nat} {cs:List Value} {row:Option Nat} (h:Own w b cs) (hg:w.grownBy w' row) (hr:some b≠row) (hb:b<w.heap.size):Own w' b cs:=
 ⟨fun j v hj=>(World.cell?_of_block (w:=w) (a:=⟨b,j,none⟩) (hg.block b hb hr)).trans (h.1 j v hj),fun j=>(World.frozen?_of_block (w:=w) (a:=⟨b,j,none⟩) (hg.block b hb hr)).trans (h.2 j)⟩
theorem New.row {v v':Value} {F:List Nat} {n m:Nat} {wb:Nat} (h:New F (wb::obk v) n) (hw:v'.ownBlock=v.ownBlock∨ ∀g,v'.ownBlock=some g→m≤g) (hm:n≤m):New F (wb::obk v') n:=fun k hk=>by
 rcases List.mem_cons.1 hk with rfl|hk
 ·exact h k (by simp)
 ·rcases hw with hw|hw
  ·exact h k (List.mem_cons_of_mem _ (mem_obk.2 (by rw[←hw];exact mem_obk.1 hk)))
  ·have:=hw k (mem_obk.1 hk)
   exact .inr (by omega)
end Go.Proofs.YtmdgeoalamancaaGreatDoor
