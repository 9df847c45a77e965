/- bitout.Reverse. The codes of a set. The alphabets. The window. -/
import Derived.Test.YtmdgeoalamancaaGreatDoorZAI
set_option maxRecDepth 100000
set_option linter.unusedVariables false
set_option linter.unusedSimpArgs false
namespace Go.Proofs.YtmdgeoalamancaaGreatDoor
open Go.RowKit
open Bt Can
theorem bits_or32 (a b:BitVec 32):bits .or .u32 (tn a:Nat) (tn b:Nat)=(tn (a |||b):Nat):=by
 unfold bits tn
 show IntKind.u32.wrap (((BitVec.ofInt 32 (a.toNat:Nat) |||BitVec.ofInt 32 (b.toNat:Nat)).toNat:Nat):Int)=_
 rw[show BitVec.ofInt 32 (a.toNat:Nat)=a by simp,show BitVec.ofInt 32 (b.toNat:Nat)=b by simp]
 exact u32_wrap _ (a |||b).isLt
theorem shr_lit (a:BitVec 32) (k:Nat):((tn a:Nat):Int)/((2^k:Nat):Int)=((tn (a>>>k):Nat):Int):=by
 unfold tn
 rw[BitVec.toNat_ushiftRight,Nat.shiftRight_eq_div_pow]
 rfl
theorem shl_lit (a:BitVec 32) (k:Nat):((tn a:Nat):Int)*((2^k:Nat):Int)%(4294967296:Int)=((tn (a<<<k):Nat):Int):=by
 unfold tn
 rw[BitVec.toNat_shiftLeft,Nat.shiftLeft_eq]
 rfl
theorem sr1 (a:BitVec 32):((tn a:Nat):Int)/(2:Int)=((tn (a>>>1):Nat):Int):=shr_lit a 1
theorem sl1 (a:BitVec 32):((tn a:Nat):Int)*(2:Int)%(4294967296:Int)=((tn (a<<<1):Nat):Int):=shl_lit a 1
theorem an1 (a:BitVec 32):bits .and .u32 (tn a:Nat) (1431655765:Int)=(tn (a&&& 1431655765#32):Nat):=bits_and32 a 1431655765#32
theorem sr2 (a:BitVec 32):((tn a:Nat):Int)/(4:Int)=((tn (a>>>2):Nat):Int):=shr_lit a 2
theorem sl2 (a:BitVec 32):((tn a:Nat):Int)*(4:Int)%(4294967296:Int)=((tn (a<<<2):Nat):Int):=shl_lit a 2
theorem an2 (a:BitVec 32):bits .and .u32 (tn a:Nat) (858993459:Int)=(tn (a&&& 858993459#32):Nat):=bits_and32 a 858993459#32
theorem sr4 (a:BitVec 32):((tn a:Nat):Int)/(16:Int)=((tn (a>>>4):Nat):Int):=shr_lit a 4
theorem sl4 (a:BitVec 32):((tn a:Nat):Int)*(16:Int)%(4294967296:Int)=((tn (a<<<4):Nat):Int):=shl_lit a 4
theorem an4 (a:BitVec 32):bits .and .u32 (tn a:Nat) (252645135:Int)=(tn (a&&& 252645135#32):Nat):=bits_and32 a 252645135#32
theorem sr8 (a:BitVec 32):((tn a:Nat):Int)/(256:Int)=((tn (a>>>8):Nat):Int):=shr_lit a 8
theorem sl8 (a:BitVec 32):((tn a:Nat):Int)*(256:Int)%(4294967296:Int)=((tn (a<<<8):Nat):Int):=shl_lit a 8
theorem an8 (a:BitVec 32):bits .and .u32 (tn a:Nat) (16711935:Int)=(tn (a&&& 16711935#32):Nat):=bits_and32 a 16711935#32
theorem sr16 (a:BitVec 32):((tn a:Nat):Int)/(65536:Int)=((tn (a>>>16):Nat):Int):=shr_lit a 16
theorem sl16 (a:BitVec 32):((tn a:Nat):Int)*(65536:Int)%(4294967296:Int)=((tn (a<<<16):Nat):Int):=shl_lit a 16
def rvA (v:BitVec 32):BitVec 32:=v>>>1&&& 1431655765#32 |||(v&&& 1431655765#32)<<<1
def rvB (v:BitVec 32):BitVec 32:=v>>>2&&& 858993459#32 |||(v&&& 858993459#32)<<<2
def rvC (v:BitVec 32):BitVec 32:=v>>>4&&& 252645135#32 |||(v&&& 252645135#32)<<<4
def rvD (v:BitVec 32):BitVec 32:=v>>>8&&& 16711935#32 |||(v&&& 16711935#32)<<<8
def rvE (v:BitVec 32):BitVec 32:=v>>>16 |||v<<<16
theorem eA (a:BitVec 32):bits .or .u32 (bits .and .u32 (((tn a:Nat):Int)/(2:Int)) (1431655765:Int)) (bits .and .u32 (tn a:Nat) (1431655765:Int)*(2:Int)%(4294967296:Int))=(tn (rvA a):Nat):=by
 rw[sr1,an1,an1,sl1,bits_or32];rfl
theorem eB (a:BitVec 32):bits .or .u32 (bits .and .u32 (((tn a:Nat):Int)/(4:Int)) (858993459:Int)) (bits .and .u32 (tn a:Nat) (858993459:Int)*(4:Int)%(4294967296:Int))=(tn (rvB a):Nat):=by
 rw[sr2,an2,an2,sl2,bits_or32];rfl
theorem eC (a:BitVec 32):bits .or .u32 (bits .and .u32 (((tn a:Nat):Int)/(16:Int)) (252645135:Int)) (bits .and .u32 (tn a:Nat) (252645135:Int)*(16:Int)%(4294967296:Int))=(tn (rvC a):Nat):=by
 rw[sr4,an4,an4,sl4,bits_or32];rfl
theorem eD (a:BitVec 32):bits .or .u32 (bits .and .u32 (((tn a:Nat):Int)/(256:Int)) (16711935:Int)) (bits .and .u32 (tn a:Nat) (16711935:Int)*(256:Int)%(4294967296:Int))=(tn (rvD a):Nat):=by
 rw[sr8,an8,an8,sl8,bits_or32];rfl
theorem eE (a:BitVec 32):bits .or .u32 (((tn a:Nat):Int)/(65536:Int)) (((tn a:Nat):Int)*(65536:Int)%(4294967296:Int))=(tn (rvE a):Nat):=by
 rw[sr16,sl16,bits_or32];rfl
theorem cases32 {p:Nat→Prop} (h:p 0∧p 1∧p 2∧p 3∧p 4∧p 5∧p 6∧p 7∧p 8∧p 9∧p 10∧p 11∧p 12∧p 13∧p 14∧p 15∧p 16∧p 17∧p 18∧p 19∧p 20∧p 21∧p 22∧p 23∧p 24∧p 25∧p 26∧p 27∧p 28∧p 29∧p 30∧p 31) (i:Nat) (hi:i<32):p i:=by
 obtain⟨h0,h1,h2,h3,h4,h5,h6,h7,h8,h9,h10,h11,h12,h13,h14,h15,h16,h17,h18,h19,h20,h21,h22,h23,h24,h25,h26,h27,h28,h29,h30,h31⟩:=h
 match i,hi with
 |0,_=>exact h0
 |1,_=>exact h1
 |2,_=>exact h2
 |3,_=>exact h3
 |4,_=>exact h4
 |5,_=>exact h5
 |6,_=>exact h6
 |7,_=>exact h7
 |8,_=>exact h8
 |9,_=>exact h9
 |10,_=>exact h10
 |11,_=>exact h11
 |12,_=>exact h12
 |13,_=>exact h13
 |14,_=>exact h14
 |15,_=>exact h15
 |16,_=>exact h16
 |17,_=>exact h17
 |18,_=>exact h18
 |19,_=>exact h19
 |20,_=>exact h20
 |21,_=>exact h21
 |22,_=>exact h22
 |23,_=>exact h23
 |24,_=>exact h24
 |25,_=>exact h25
 |26,_=>exact h26
 |27,_=>exact h27
 |28,_=>exact h28
 |29,_=>exact h29
 |30,_=>exact h30
 |31,_=>exact h31
 |n+32,h=>omega
theorem rvE_bit (v:BitVec 32): ∀i,i<32→(rvE v).getLsbD i=v.getLsbD (i^^^16):=cases32 (by unfold rvE;simp)
theorem rvD_bit (v:BitVec 32): ∀i,i<32→(rvD v).getLsbD i=v.getLsbD (i^^^8):=cases32 (by unfold rvD;simp)
theorem rvC_bit (v:BitVec 32): ∀i,i<32→(rvC v).getLsbD i=v.getLsbD (i^^^4):=cases32 (by unfold rvC;simp)
theorem rvB_bit (v:BitVec 32): ∀i,i<32→(rvB v).getLsbD i=v.getLsbD (i^^^2):=cases32 (by unfold rvB;simp)
theorem rvA_bit (v:BitVec 32): ∀i,i<32→(rvA v).getLsbD i=v.getLsbD (i^^^1):=cases32 (by unfold rvA;simp)
def rv (v:BitVec 32):BitVec 32:=rvE (rvD (rvC (rvB (rvA v))))
theorem xor31: ∀i,i<32→i^^^16^^^8^^^4^^^2^^^1=31-i:=by decide
theorem xlt: ∀i,i<32→i^^^16<32∧i^^^16^^^8<32∧i^^^16^^^8^^^4<32∧i^^^16^^^8^^^4^^^2<32:=by decide
theorem rv_bit (v:BitVec 32) (i:Nat) (h:i<32):(rv v).getLsbD i=v.getLsbD (31-i):=by
 obtain⟨h1,h2,h3,h4⟩:=xlt i h
 unfold rv
 rw[rvE_bit _ _ h,rvD_bit _ _ h1,rvC_bit _ _ h2,rvB_bit _ _ h3,rvA_bit _ _ h4,xor31 i h]
theorem rv_val (c n:Nat) (hn:n≤32):tn (rv (BitVec.ofNat 32 c))/2^(32-n)=val (msb c n):=by
 refine Nat.eq_of_testBit_eq fun i=> ?_
 rw[Nat.testBit_div_two_pow]
 show (rv (BitVec.ofNat 32 c)).getLsbD (i+(32-n))=_
 by_cases hi:i<n
 ·rw[rv_bit _ _ (by omega),BitVec.getLsbD_ofNat,Nat.testBit_eq_decide_div_mod_eq,Nat.testBit_eq_decide_div_mod_eq,val_bit _ (msb_get c n i hi),show 31-(i+(32-n))=n-1-i by omega]
  by_cases h:c/2^(n-1-i)%2=1
  ·simp[h,b2n];omega
  ·simp[h,b2n]
 ·rw[BitVec.getLsbD_of_ge _ _ (by omega),Nat.testBit_lt_two_pow]
  refine Nat.lt_of_lt_of_le (val_lt _) ?_
  rw[msb_len]
  exact Nat.pow_le_pow_right (by decide) (by omega)
theorem revb_any (v:BitVec 32) (w:World):
  Calls Tryz.prog 209 #[.int .u32 (tn v:Nat)] w fun e w'=>e= .returned (.int .u32 (tn (rvE (rvD v)):Nat))∧w'=w:=by
 have x1:=eD v
 have x2:=eE (rvD v)
 go_enter Tryz.func209,Tryz.ntmps209
 go_wp2_with (fail)
 go_ret
 exact⟨by rfl,rfl⟩
theorem rev_any (v:BitVec 32) (w:World):
  Calls Tryz.prog 197 #[.int .u32 (tn v:Nat)] w fun e w'=>e= .returned (.int .u32 (tn (rv v):Nat))∧w'=w:=by
 have x1:=eA v
 have x2:=eB (rvA v)
 have x3:=eC (rvB (rvA v))
 go_enter Tryz.func197,Tryz.ntmps197
 go_wp2_with (fail)
 refine (revb_any _ w).mono ?_
 rintro e w2 ⟨rfl,rfl⟩
 go_wp2_with (fail)
 go_ret
 exact⟨by rfl,rfl⟩
theorem reverse_any (c n:Nat) (hc:c<2^32) (h1:1≤n) (hn:n≤32) (w:World):
  Calls Tryz.prog 187 #[.int .u32 (c:Nat),.int .i64 (n:Nat)] w fun e w'=>e= .returned (.int .u32 (val (msb c n):Nat))∧w'=w:=by
 have HR:=Lib.hid (rev_any (BitVec.ofNat 32 c) w)
 have hrv:=rv_val c n hn
 have hcv:tn (BitVec.ofNat 32 c)=c:=by unfold tn;rw[BitVec.toNat_ofNat,Nat.mod_eq_of_lt hc]
 rw[hcv] at HR
 obtain⟨k,hk⟩: ∃z,32-n=z:=⟨_,rfl⟩
 rw[hk] at hrv
 obtain⟨X,hX⟩: ∃z,tn (rv (BitVec.ofNat 32 c))=z:=⟨_,rfl⟩
 rw[hX] at HR hrv
 obtain⟨Y,hY⟩: ∃z,val (msb c n)=z:=⟨_,rfl⟩
 rw[hY] at hrv ⊢
 have q1:IntKind.i64.wrap ((32:Int)-(n:Int))=((k:Nat):Int):=by rw[IntWalk.i64_in _ (by omega)];omega
 have q2:((X:Nat):Int)/((2:Int)^k)=((Y:Nat):Int):=by rw[←hrv];simp
 have d1:min (n:Int) 32=(n:Int):=by omega
 have d2:max (0:Int) (n:Int)=(n:Int):=by omega
 have d3:decide (0<n)=true:=decide_eq_true (by omega)
 have hk32:k<32:=by omega
 clear hrv hX hY hk hcv
 go_enter Tryz.func187,Tryz.ntmps187
 go_wp2_with (fail)
 refine HR.out.mono ?_
 rintro e w2 ⟨rfl,rfl⟩
 go_wp2_with (fail)
 go_ret
 exact⟨by rfl,rfl⟩
end Go.Proofs.YtmdgeoalamancaaGreatDoor
namespace Go.Proofs.YtmdgeoalamancaaGreatDoor
open Go.RowKit
open Bt Can Mc
def uC (l:List Nat):List Value:=l.map fun x=> .int .u32 (x:Nat)
theorem uC_len (l:List Nat):(uC l).length=l.length:=by unfold uC;simp
theorem uC_get {l:List Nat} {j x:Nat} (h:l[j]? =some x):(uC l)[j]? =some (.int .u32 (x:Nat)):=by unfold uC;rw[List.getElem?_map,h];rfl
theorem uC_set (l:List Nat) (j x:Nat):(uC l).set j (.int .u32 (x:Nat))=uC (l.set j x):=by unfold uC;rw[List.map_set]
theorem uC_rep (n:Nat):uC (List.replicate n 0)=List.replicate n (.int .u32 0):=by unfold uC;rw[List.map_replicate];rfl
theorem info_u32:(Tryz.prog.info? 32).map (fun i=>(i.zero,i.size,i.bytes))=some (some (.int .u32 0),1,4):=by kernel_rfl
theorem hmkU (n:Nat) (W:World) (hn:n≤2000000):(Instr.makeSlice 275 (.int .i64 ((n:Nat):Int)) (.int .i64 ((n:Nat):Int))).run Tryz.prog W= .ok (.slice (some ⟨W.heap.size,0,none⟩) n n) (W.alloc (.cells (uC (List.replicate n 0)).toArray 32)):=by
 obtain⟨i0,hi,hz0,hz1,hz2⟩:=info_parts info_u32
 have:=run_makeSlice (P:=Tryz.prog) W 275 32 i0 (.int .u32 0) Tryz.underlying275 hi hz0 .i64 .i64 ((n:Nat):Int) ((n:Nat):Int) (by omega) (Int.le_refl _) (by rw[hz1];omega) (by rw[hz2];omega) (by omega)
 rw[this,hz1,made_one n _ rfl,uC_rep]
 rw[show (((n:Nat):Int)).toNat=n by omega]
def nC (ls:List Nat) (j:Nat):List Value:=(List.range 16).map fun n=> .int .u32 ((if n≤j+1 then fst ls n else 0:Nat):Int)
theorem nC_len (ls:List Nat) (j:Nat):(nC ls j).length=16:=by unfold nC;simp
theorem nC_get (ls:List Nat) (j:Nat) {n:Nat} (h:n<16):(nC ls j)[n]? =some (.int .u32 ((if n≤j+1 then fst ls n else 0:Nat):Int)):=by
 unfold nC
 rw[List.getElem?_map,List.getElem?_range h]
 rfl
theorem nC_zero (ls:List Nat):List.replicate 16 (Value.int .u32 0)=nC ls 0:=by
 refine List.ext_getElem? fun k=> ?_
 by_cases hk:k<16
 ·rw[nC_get _ _ hk,List.getElem?_replicate,if_pos hk]
  by_cases h1:k≤0+1
  ·rw[if_pos h1]
   have:k=0∨k=1:=by omega
   rcases this with rfl|rfl<;>rfl
  ·rw[if_neg h1];rfl
 ·rw[List.getElem?_eq_none (by simp;omega),List.getElem?_eq_none (by rw[nC_len];omega)]
theorem nC_step (ls:List Nat) {j:Nat} (hj:j<14):(nC ls j).set (j+2) (.int .u32 (fst ls (j+2):Nat))=nC ls (j+1):=by
 refine List.ext_getElem? fun k=> ?_
 by_cases hk:k<16
 ·rw[nC_get _ _ hk]
  by_cases e:j+2=k
  ·subst e
   rw[List.getElem?_set_self (by rw[nC_len];omega),if_pos (by omega)]
  ·rw[List.getElem?_set_ne e,nC_get _ _ hk]
   by_cases h1:k≤j+1
   ·rw[if_pos h1,if_pos (by omega)]
   ·rw[if_neg h1,if_neg (by omega)]
 ·rw[List.getElem?_eq_none (by rw[List.length_set,nC_len];omega),List.getElem?_eq_none (by rw[nC_len];omega)]
def dCs (ls:List Nat) (q:Nat):List Value:=(List.range 16).map fun n=> .int .u32 ((if n=0 then 0 else fst ls n+(ls.take q).count n:Nat):Int)
theorem dCs_len (ls:List Nat) (q:Nat):(dCs ls q).length=16:=by unfold dCs;simp
theorem dCs_get (ls:List Nat) (q:Nat) {n:Nat} (h:n<16):(dCs ls q)[n]? =some (.int .u32 ((if n=0 then 0 else fst ls n+(ls.take q).count n:Nat):Int)):=by
 unfold dCs
 rw[List.getElem?_map,List.getElem?_range h]
 rfl
theorem nC_dCs (ls:List Nat):nC ls 14=dCs ls 0:=by
 refine List.ext_getElem? fun k=> ?_
 by_cases hk:k<16
 ·rw[nC_get _ _ hk,dCs_get _ _ hk,if_pos (by omega),List.take_zero]
  by_cases h0:k=0
  ·subst h0;rfl
  ·rw[if_neg h0];rfl
 ·rw[List.getElem?_eq_none (by rw[nC_len];omega),List.getElem?_eq_none (by rw[dCs_len];omega)]
theorem dCs_step (ls:List Nat) {q x:Nat} (hx:ls[q]? =some x) (h1:1≤x) (h15:x≤15):(dCs ls q).set x (.int .u32 ((fst ls x+(ls.take q).count x+1:Nat):Int))=dCs ls (q+1):=by
 refine List.ext_getElem? fun k=> ?_
 by_cases hk:k<16
 ·rw[dCs_get _ _ hk,List.take_add_one,hx,List.count_append]
  by_cases e:x=k
  ·subst e
   rw[List.getElem?_set_self (by rw[dCs_len];omega),if_neg (by omega)]
   simp
   omega
  ·rw[List.getElem?_set_ne e,dCs_get _ _ hk]
   simp[List.count_cons,e]
 ·rw[List.getElem?_eq_none (by rw[List.length_set,dCs_len];omega),List.getElem?_eq_none (by rw[dCs_len];omega)]
theorem dCs_none (ls:List Nat) {q:Nat} (hx:ls[q]? =some 0):dCs ls q=dCs ls (q+1):=by
 refine List.ext_getElem? fun k=> ?_
 by_cases hk:k<16
 ·rw[dCs_get _ _ hk,dCs_get _ _ hk,List.take_add_one,hx,List.count_append]
  by_cases h0:k=0
  ·rw[if_pos h0,if_pos h0]
  ·rw[if_neg h0,if_neg h0]
   have:(Option.toList (some 0)).count k=0:=by simp[List.count_cons];omega
   rw[this]
   rfl
 ·rw[List.getElem?_eq_none (by rw[dCs_len];omega),List.getElem?_eq_none (by rw[dCs_len];omega)]
def cdv (ls:List Nat) (s:Nat):Nat:=if len ls s=0 then 0 else val (msb (cod ls s) (len ls s))
def cdl (ls:List Nat) (q:Nat):List Nat:=(List.range ls.length).map fun s=>if s<q then cdv ls s else 0
theorem cdl_len (ls:List Nat) (q:Nat):(cdl ls q).length=ls.length:=by unfold cdl;simp
theorem cdl_at (ls:List Nat) (q:Nat) {s:Nat} (h:s<ls.length):(cdl ls q)[s]? =some (if s<q then cdv ls s else 0):=by
 unfold cdl
 rw[List.getElem?_map,List.getElem?_range h]
 rfl
theorem cdl_zero (ls:List Nat):cdl ls 0=List.replicate ls.length 0:=by
 refine List.ext_getElem? fun k=> ?_
 by_cases hk:k<ls.length
 ·rw[cdl_at _ _ hk,List.getElem?_replicate,if_pos hk];rfl
 ·rw[List.getElem?_eq_none (by rw[cdl_len];omega),List.getElem?_eq_none (by simp;omega)]
theorem cdl_step (ls:List Nat) {q:Nat} (hq:q<ls.length):(cdl ls q).set q (cdv ls q)=cdl ls (q+1):=by
 refine List.ext_getElem? fun k=> ?_
 by_cases hk:k<ls.length
 ·rw[cdl_at _ _ hk]
  by_cases e:q=k
  ·subst e
   rw[List.getElem?_set_self (by rw[cdl_len];omega),if_pos (by omega)]
  ·rw[List.getElem?_set_ne e,cdl_at _ _ hk]
   by_cases h1:k<q
   ·rw[if_pos h1,if_pos (by omega)]
   ·rw[if_neg h1,if_neg (by omega)]
 ·rw[List.getElem?_eq_none (by rw[List.length_set,cdl_len];omega),List.getElem?_eq_none (by rw[cdl_len];omega)]
theorem cdl_none (ls:List Nat) {q:Nat} (hq:q<ls.length) (h0:len ls q=0):cdl ls q=cdl ls (q+1):=by
 have h1:=cdl_step ls hq
 rw[show cdv ls q=0 by unfold cdv;rw[if_pos h0]] at h1
 rw[←h1]
 refine List.ext_getElem? fun k=> ?_
 by_cases e:q=k
 ·subst e
  rw[List.getElem?_set_self (by rw[cdl_len];omega),cdl_at _ _ hq,if_neg (by omega)]
 ·rw[List.getElem?_set_ne e]
theorem cdl_end (ls:List Nat) {s:Nat} (h:s<ls.length):(cdl ls ls.length)[s]? =some (cdv ls s):=by rw[cdl_at _ _ h,if_pos h]
theorem cdv_lt (ls:List Nat) {s:Nat} (h15:len ls s≤15):cdv ls s<32768:=by
 unfold cdv
 split
 ·omega
 ·have:=val_lt (msb (cod ls s) (len ls s))
  rw[msb_len] at this
  exact Nat.lt_of_lt_of_le this (Nat.pow_le_pow_right (by decide) h15)
theorem cdv_bits (ls:List Nat) {s:Nat} (h:1≤len ls s):lsb (cdv ls s) (len ls s)=cb ls s:=by
 unfold cdv cb
 rw[if_neg (by omega)]
 have:=lsb_val (msb (cod ls s) (len ls s))
 rw[msb_len] at this
 exact this
set_option maxHeartbeats 4000000 in
theorem codes_any (ls:List Nat) (n:Nat) (v:Value) (B:Nat) (w:World) (h:Sl w B 1 v n (iC ls)) (hB:B≤w.heap.size) (hn:n=ls.length) (hl:n≤1000) (h15: ∀x∈ls,x≤15) (hk:krf ls 15≤2^15):
  Calls Tryz.prog 164 #[v] w fun e w'=> ∃v',e= .returned (.tuple #[v',.int .i64 0])∧Row w.heap.size 32 1 w' v' n (uC (cdl ls n))∧Below w.heap.size w w':=by
 obtain⟨a,cap,rfl,hcap⟩:=h.form
 have HS:=Lib.hid (fun (W:World) (hW:Below w.heap.size w W)=>h.below (hW.mono hB))
 have HK:=Lib.hid (kind_any ls n _ B w h hB hn hl h15)
 have HT:=Lib.hid (fun (W:World) (hW:Below w.heap.size w W)=>tally_any ls n _ B W (h.below (hW.mono hB)) (Nat.le_trans hB hW.size) hn (by omega) h15)
 have hag:(tC ls).toArray=#[.int .i64 (ls.count 0:Nat),.int .i64 (ls.count 1:Nat),.int .i64 (ls.count 2:Nat),.int .i64 (ls.count 3:Nat),.int .i64 (ls.count 4:Nat),.int .i64 (ls.count 5:Nat),.int .i64 (ls.count 6:Nat),.int .i64 (ls.count 7:Nat),.int .i64 (ls.count 8:Nat),.int .i64 (ls.count 9:Nat),.int .i64 (ls.count 10:Nat),.int .i64 (ls.count 11:Nat),.int .i64 (ls.count 12:Nat),.int .i64 (ls.count 13:Nat),.int .i64 (ls.count 14:Nat),.int .i64 (ls.count 15:Nat)]:=rfl
 rw[hag] at HT
 have HN:=Lib.hid hn
 have H15:=Lib.hid h15
 have HKR:=Lib.hid hk
 have hll:ls.length≤1000:=by omega
 have hkn:kindN ls≤3:=by
  unfold kindN
  rw[if_neg (by omega)]
  repeat' split
  all_goals omega
 obtain⟨K,hK⟩: ∃z,kindN ls=z:=⟨_,rfl⟩
 rw[hK] at HK hkn
 have d5:((K:Int)==5)=false:=by simp;omega
 have d4:((K:Int)==4)=false:=by simp;omega
 have d5':(K==5)=false:=by simp;omega
 have d4':(K==4)=false:=by simp;omega
 clear h hn h15 hk hK hag
 go_enter Tryz.func164,Tryz.ntmps164
 go_wp2_with (fail)
 refine HK.out.mono ?_
 rintro e w0 ⟨rfl,hb0⟩
 have HT0:=Lib.hid (HT.out w0 hb0)
 have HB0:=Lib.hid hb0
 clear hb0 HT HK
 go_wp2_with (fail)
 refine HT0.out.mono ?_
 rintro e w1 ⟨rfl,hb1'⟩
 have hb1:=HB0.out.trans (hb1'.mono HB0.out.size)
 clear hb1' HT0 HB0
 obtain⟨wa,hwa⟩: ∃z:World,z=(w1.alloc (.cells #[.int .i64 (ls.count 0:Nat),.int .i64 (ls.count 1:Nat),.int .i64 (ls.count 2:Nat),.int .i64 (ls.count 3:Nat),.int .i64 (ls.count 4:Nat),.int .i64 (ls.count 5:Nat),.int .i64 (ls.count 6:Nat),.int .i64 (ls.count 7:Nat),.int .i64 (ls.count 8:Nat),.int .i64 (ls.count 9:Nat),.int .i64 (ls.count 10:Nat),.int .i64 (ls.count 11:Nat),.int .i64 (ls.count 12:Nat),.int .i64 (ls.count 13:Nat),.int .i64 (ls.count 14:Nat),.int .i64 (ls.count 15:Nat)] 239)).alloc (.cells #[.int .u32 0,.int .u32 0,.int .u32 0,.int .u32 0,.int .u32 0,.int .u32 0,.int .u32 0,.int .u32 0,.int .u32 0,.int .u32 0,.int .u32 0,.int .u32 0,.int .u32 0,.int .u32 0,.int .u32 0,.int .u32 0] 124):=⟨_,rfl⟩
 have HO:Hid (Own wa w1.heap.size (tC ls)):=Lib.hid (by rw[hwa];exact (Own.new_at w1 (tC ls) _ _ rfl).below ((Below.refl _ _).alloc (Nat.le_refl _) _) (by simp))
 have HA:Hid (Own wa (w1.heap.size+1) (List.replicate 16 (.int .u32 0))):=Lib.hid (by rw[hwa];exact Own.new_at _ (List.replicate 16 (.int .u32 0)) _ _ (by simp))
 have HB:Hid (Below w.heap.size w wa):=Lib.hid (by rw[hwa];exact (hb1.alloc hb1.size _).alloc (by have:=hb1.size;simp;omega) _)
 have hza:w1.heap.size+2≤wa.heap.size:=by rw[hwa];simp
 have hz1:=hb1.size
 clear hb1
 go_upto_region 8 with (fail)
 rw[←hwa]
 clear hwa
 obtain⟨tb,htb⟩: ∃z,w1.heap.size=z:=⟨_,rfl⟩
 rw[htb] at HO HA hza hz1 ⊢
 clear htb
 rw[nC_zero ls] at HA
 go_wp2_with (fail)
 go_loopw [7] (fun i wr=> ∃j:Nat,i= .int .i64 ((j:Int)+2)∧j≤14∧Hid (Own wr tb (tC ls))∧Hid (Own wr (tb+1) (nC ls j))∧Hid (Below w.heap.size w wr)∧tb+2≤wr.heap.size) (fun i _=>17-(intOf i).toNat)
 case atStart=>exact⟨0,rfl,by omega,HO,HA,HB,hza⟩
 case round=>
  clear HO HA HB hza
  obtain⟨j,rfl,hj,HO,HA,HB,hz⟩:=hrel
  obtain⟨wo,rfl⟩: ∃z:World,z=wr:=⟨_,rfl⟩
  by_cases hlt:j<14
  ·as_aux_lemma=>
   have d1:decide ((j:Int)+2≤15)=true:=decide_eq_true (by omega)
   have d1':decide (j+2≤15)=true:=decide_eq_true (by omega)
   have q1:IntKind.i64.wrap ((j:Int)+2+1)=(j:Int)+2+1:=IntWalk.i64_in _ (by omega)
   have q2:IntKind.i64.wrap ((j:Int)+2-1)=(j:Int)+1:=by rw[IntWalk.i64_in _ (by omega)];omega
   have k0:=HO.out.1 (j+1) _ (tC_get ls (by omega))
   have k1:=HA.out.1 (j+1) (.int .u32 (fst ls (j+1):Nat)) (by rw[nC_get _ _ (by omega),if_pos (Nat.le_refl _)])
   have k2:=HA.out.1 (j+2) (.int .u32 0) (by rw[nC_get _ _ (by omega),if_neg (by omega)];rfl)
   have f2:=HA.out.2 (j+2)
   have hst:=fst_step ls (n:=j+1) (by omega)
   have hfl:=fst_le ls HKR.out (n:=j+1) (by omega) (by omega)
   have hp15:2^(j+1)≤32768:=Nat.le_trans (Nat.pow_le_pow_right (by decide) (show j+1≤15 by omega)) (by decide)
   have HST:=Lib.hid (nC_step ls hlt)
   rw[show ls.count (j+1)=mny ls (j+1) from rfl] at k0
   obtain⟨M,hM⟩: ∃z,mny ls (j+1)=z:=⟨_,rfl⟩
   obtain⟨I,hI⟩: ∃z,fst ls (j+1)=z:=⟨_,rfl⟩
   obtain⟨I2,hI2⟩: ∃z,fst ls (j+2)=z:=⟨_,rfl⟩
   rw[show j+1+1=j+2 by omega,hI2,hI,hM] at hst
   rw[hM] at k0 hfl
   rw[hI] at k1 hfl
   rw[hI2] at HST
   obtain⟨IM,hIM⟩: ∃z,I+M=z:=⟨_,rfl⟩
   have y0:IntKind.u32.wrap ((M:Nat):Int)=((M:Nat):Int):=u32_wrap _ (by omega)
   have y1:IntKind.u32.wrap (((I:Nat):Int)+((M:Nat):Int))=((IM:Nat):Int):=by rw[←hIM];exact u32_wrap (I+M) (by omega)
   have y2:IntKind.u32.wrap (2*((IM:Nat):Int))=((I2:Nat):Int):=by rw[hst,←hIM];exact u32_wrap (2*(I+M)) (by omega)
   have y1':(((I:Nat):Int)+((M:Nat):Int))%4294967296=((IM:Nat):Int):=by omega
   have y2':(2*((IM:Nat):Int))%4294967296=((I2:Nat):Int):=by omega
   have hj16:(j:Int)+1<16:=by omega
   have hj18:(j:Int)+2<16:=by omega
   have hj0:(0:Int)≤(j:Int)+1:=by omega
   clear hst hfl hp15 hM hI hI2 hIM
   go_upto_region 11 with (fail)
   go_region
   all_goals
    have HO2:=Lib.hid ((HO.out.other (c:=tb+1) (by omega) (j+2) (.int .u32 (I2:Nat))).below (Below.refl (tb+2) _).drew (by omega))
    have HA2:Hid (Own (wo.setCell ⟨tb+1,j+2,none⟩ (.int .u32 (I2:Nat))).drew (tb+1) (nC ls (j+1))):=Lib.hid (by rw[←HST.out];exact (HA.out.set (j+2) (.int .u32 (I2:Nat)) (by rw[nC_len];omega)).below (Below.refl (tb+2) _).drew (by omega))
    have HB2:Hid (Below w.heap.size w (wo.setCell ⟨tb+1,j+2,none⟩ (.int .u32 (I2:Nat))).drew):=Lib.hid ((HB.out.setCell (p:=⟨tb+1,j+2,none⟩) (by show w.heap.size≤tb+1;omega) (.int .u32 (I2:Nat))).drew)
    have hz2:tb+2≤(wo.setCell ⟨tb+1,j+2,none⟩ (.int .u32 (I2:Nat))).drew.heap.size:=by simpa using hz
    clear k0 k1 k2 f2
    generalize (wo.setCell ⟨tb+1,j+2,none⟩ (.int .u32 (I2:Nat))).drew=w9 at*
    go_wp2_with (fail)
    go_roundw
    case rel=>exact⟨j+1,by first|rfl|exact congrArg (Value.int .i64) (by omega),hlt,HO2,HA2,HB2,hz2⟩
    case measure=>simp[intOf]<;>omega
  ·obtain rfl:j=14:=by omega
   rw[show ((14:Nat):Int)+2=16 from rfl]
   rw[nC_dCs ls] at HA
   have hmk:=hmkU n wo (by omega)
   obtain⟨wb,hwb⟩: ∃z:World,z=wo.alloc (.cells (uC (List.replicate n 0)).toArray 32):=⟨_,rfl⟩
   have HLR:Hid (Row wo.heap.size 32 1 wb (.slice (some ⟨wo.heap.size,0,none⟩) n n) n (uC (cdl ls 0))):=Lib.hid (by
    rw[hwb,cdl_zero,←HN.out]
    exact Row.lit wo _ (Nat.le_refl _) (by omega) (by rw[uC_len];simp))
   have HA2:Hid (Own wb (tb+1) (dCs ls 0)):=Lib.hid (by rw[hwb];exact HA.out.below ((Below.refl _ _).alloc (Nat.le_refl _) _) (by omega))
   have HB2:Hid (Below w.heap.size w wb):=Lib.hid (by rw[hwb];exact HB.out.alloc HB.out.size _)
   have hzb:tb+2≤wb.heap.size:=by rw[hwb];simp;omega
   have hzo:=HB.out.size
   go_upto_region 13 with (fail)
   rw[←hwb]
   clear hwb hmk
   obtain⟨g,hg⟩: ∃z,wo.heap.size=z:=⟨_,rfl⟩
   rw[hg] at HLR hz hzo ⊢
   clear hg
   go_wp2_with (fail)
   go_loopw [44] (fun i wr=> ∃q:Nat,i= .int .i64 q∧q≤n∧Hid (Own wr (tb+1) (dCs ls q))∧Hid (Row g 32 1 wr (.slice (some ⟨g,0,none⟩) n n) n (uC (cdl ls q)))∧Hid (Below w.heap.size w wr)∧tb+2≤wr.heap.size) (fun i _=>n-(intOf i).toNat)
   case atStart=>exact⟨0,rfl,Nat.zero_le _,HA2,HLR,HB2,hzb⟩
   case round=>
    clear HA2 HLR HB2 hzb
    obtain⟨q,rfl,hq,HA,HLR,HB,hz2⟩:=hrel
    obtain⟨w5,rfl⟩: ∃z:World,z=wr:=⟨_,rfl⟩
    by_cases hqn:q<n
    ·as_aux_lemma=>
     have d1:decide (q<n)=true:=decide_eq_true hqn
     have d2:decide ((q:Int)<(n:Int))=true:=decide_eq_true (by omega)
     have q1:IntKind.i64.wrap ((q:Int)+1)=(q:Int)+1:=IntWalk.i64_in _ (by omega)
     have hqi:(q:Int)<(n:Int):=by omega
     obtain⟨b,off,rfl,_⟩:=sl_cells (HS.out w5 HB.out) (by omega)
     obtain⟨x,hx⟩: ∃x,ls[q]? =some x:=⟨_,List.getElem?_eq_getElem (by have:=HN.out;omega)⟩
     have k0:=sl_same (HS.out w5 HB.out) (by omega) q _ (iC_get hx)
     have hx15:=H15.out x (List.mem_of_getElem? hx)
     have hlx:len ls q=x:=by unfold len;rw[List.getD_eq_getElem?_getD,hx];rfl
     have hql:q<ls.length:=by have:=HN.out;omega
     by_cases h1:1≤x
     rotate_left
     ·obtain rfl:x=0:=by omega
      have HZ:=Lib.hid (dCs_none ls hx)
      have HSR:=Lib.hid (cdl_none ls hql hlx)
      clear hx
      go_wp2_with (fail)
      go_roundw
      case rel=>exact⟨q+1,rfl,hqn,Lib.hid (by rw[←HZ.out];exact HA.out),Lib.hid (by rw[←HSR.out];exact HLR.out),HB,hz2⟩
      case measure=>simp[intOf]<;>omega
     have d3:decide ((1:Int)≤(x:Int))=true:=decide_eq_true (by omega)
     have d3':decide (1≤x)=true:=decide_eq_true h1
     have d3'':decide (0<x)=true:=decide_eq_true (by omega)
     have hce:cod ls q=fst ls x+(ls.take q).count x:=by unfold cod rnk;rw[hlx]
     have hcl:=cod_lt ls HKR.out hql (by omega) (by omega)
     have hp15:2^len ls q≤32768:=Nat.le_trans (Nat.pow_le_pow_right (by decide) (show len ls q≤15 by omega)) (by decide)
     have kx:=HA.out.1 x (.int .u32 (cod ls q:Nat)) (by rw[dCs_get _ _ (by omega),if_neg (by omega),hce])
     have fx:=HA.out.2 x
     have HBS:=Lib.hid (dCs_step ls hx h1 hx15)
     rw[←hce] at HBS
     have HSR:=Lib.hid (cdl_step ls hql)
     have hRV:=reverse_any (cod ls q) x (by omega) h1 (by omega) w5
     have hcv:cdv ls q=val (msb (cod ls q) x):=by unfold cdv;rw[if_neg (by omega),hlx]
     rw[←hcv] at hRV
     obtain⟨P,hP⟩: ∃z,cod ls q=z:=⟨_,rfl⟩
     have HPE:Hid (fst ls x+(ls.take q).count x=P):=Lib.hid (by rw[←hce];exact hP)
     rw[hP] at kx HBS hcl hRV
     obtain⟨V,hV⟩: ∃z,cdv ls q=z:=⟨_,rfl⟩
     rw[hV] at HSR hRV
     have HRV:=Lib.hid hRV
     have hy:(cdl ls q)[q]? =some 0:=by rw[cdl_at _ _ hql,if_neg (by omega)]
     have kp:=sl_same HLR.out.sl (by omega) q _ (uC_get hy)
     rw[Nat.zero_add] at kp
     have fp:=HLR.out.frozenAt q
     have y1:IntKind.u32.wrap (((P:Nat):Int)+1)=((P+1:Nat):Int):=u32_wrap (P+1) (by omega)
     have y1':(((P:Nat):Int)+1)%4294967296=((P+1:Nat):Int):=by omega
     obtain⟨P1,hP1⟩: ∃z,P+1=z:=⟨_,rfl⟩
     rw[hP1] at y1 y1' HBS
     have hxi:(x:Int)<16:=by omega
     clear hx hy hlx hce hP hP1 hRV hcv hV hcl hp15
     go_wp2_with (fail)
     refine HRV.out.mono ?_
     rintro e w6 ⟨rfl,rfl⟩
     go_upto_region 18 with (fail)
     have HA6:=Lib.hid (HA.out.other (c:=g) (by omega) q (.int .u32 (V:Nat)))
     have HL6:Hid (Row g 32 1 (w6.setCell ⟨g,q,none⟩ (.int .u32 (V:Nat))) (.slice (some ⟨g,0,none⟩) n n) n (uC (cdl ls (q+1)))):=Lib.hid (by
      rw[←HSR.out,←uC_set]
      exact (World.ownsRow.stored HLR.out q (.int .u32 (V:Nat))).1)
     have HB6:=Lib.hid (HB.out.setCell (p:=⟨g,q,none⟩) (by show w.heap.size≤g;omega) (.int .u32 (V:Nat)))
     have hz6:tb+2≤(w6.setCell ⟨g,q,none⟩ (.int .u32 (V:Nat))).heap.size:=by simpa using hz2
     clear kx fx kp fp HRV k0
     generalize w6.setCell ⟨g,q,none⟩ (.int .u32 (V:Nat))=w7 at*
     have kx:=HA6.out.1 x (.int .u32 (P:Nat)) (by rw[dCs_get _ _ (by omega),if_neg (by omega)];exact congrArg (fun z:Nat=>some (Value.int .u32 (z:Int))) HPE.out)
     have fx:=HA6.out.2 x
     go_wp2_with (fail)
     go_roundw
     case rel=>exact⟨q+1,rfl,hqn,Lib.hid (by rw[←HBS.out];exact HA6.out.set x _ (by rw[dCs_len];omega)),Lib.hid (HL6.out.other (c:=tb+1) (by omega) x _),Lib.hid (HB6.out.setCell (p:=⟨tb+1,x,none⟩) (by show w.heap.size≤tb+1;omega) _),by simpa using hz6⟩
     case measure=>simp[intOf]<;>omega
    ·have d1:decide (q<n)=false:=decide_eq_false hqn
     have d2:decide ((q:Int)<(n:Int))=false:=decide_eq_false (by omega)
     obtain rfl:q=n:=by omega
     go_wp2_with (fail)
     go_ret2
     exact⟨_,rfl,HLR.out.mono hzo,HB.out⟩
end Go.Proofs.YtmdgeoalamancaaGreatDoor
namespace Go.Proofs.YtmdgeoalamancaaGreatDoor
open Go.RowKit
open Bt Can Mc
def fil (f:Nat→Nat) (n j:Nat):List Nat:=(List.range n).map fun k=>if k<j then f k else 0
theorem fil_len (f:Nat→Nat) (n j:Nat):(fil f n j).length=n:=by unfold fil;simp
theorem fil_get (f:Nat→Nat) {n j k:Nat} (h:k<n):(fil f n j)[k]? =some (if k<j then f k else 0):=by
 unfold fil
 rw[List.getElem?_map,List.getElem?_range h]
 rfl
theorem fil_zero (f:Nat→Nat) (n:Nat):fil f n 0=List.replicate n 0:=by
 refine List.ext_getElem? fun k=> ?_
 by_cases hk:k<n
 ·rw[fil_get _ hk,List.getElem?_replicate,if_pos hk,if_neg (by omega)]
 ·rw[List.getElem?_eq_none (by rw[fil_len];omega),List.getElem?_eq_none (by simp;omega)]
theorem fil_step (f:Nat→Nat) {n j:Nat} (h:j<n):(fil f n j).set j (f j)=fil f n (j+1):=by
 refine List.ext_getElem? fun k=> ?_
 by_cases hk:k<n
 ·rw[fil_get _ hk]
  by_cases e:j=k
  ·subst e
   rw[List.getElem?_set_self (by rw[fil_len];omega),if_pos (by omega)]
  ·rw[List.getElem?_set_ne e,fil_get _ hk]
   by_cases hj:k<j
   ·rw[if_pos hj,if_pos (by omega)]
   ·rw[if_neg hj,if_neg (by omega)]
 ·rw[List.getElem?_eq_none (by rw[List.length_set,fil_len];omega),List.getElem?_eq_none (by rw[fil_len];omega)]
def fxL (k:Nat):Nat:=if k<144 then 8 else if k<256 then 9 else if k<280 then 7 else 8
def fxD (_:Nat):Nat:=5
theorem fil_fixL:fil fxL 288 288=fixL:=by decide
theorem fil_fixD:fil fxD 32 32=fixD:=by decide
set_option maxHeartbeats 4000000 in
theorem fixl_any (w:World):Calls Tryz.prog 90 #[] w fun e w'=> ∃v',e= .returned v'∧Row w.heap.size 3 1 w' v' 288 (iC fixL)∧Below w.heap.size w w':=by
 have hmk:=hmkI 288 w (by omega)
 rw[show (((288:Nat):Nat):Int)=(288:Int) from rfl] at hmk
 obtain⟨Z,hZ⟩: ∃z,iC (List.replicate 288 0)=z:=⟨_,rfl⟩
 rw[hZ] at hmk
 obtain⟨wb,hwb⟩: ∃z:World,z=w.alloc (.cells Z.toArray 3):=⟨_,rfl⟩
 have HLR:Hid (Row w.heap.size 3 1 wb (.slice (some ⟨w.heap.size,0,none⟩) 288 288) 288 (iC (fil fxL 288 0))):=Lib.hid (by
  rw[hwb,fil_zero,←hZ]
  exact Row.lit w _ (Nat.le_refl _) (by omega) (by rw[iC_len];simp))
 have HB:Hid (Below w.heap.size w wb):=Lib.hid (by rw[hwb];exact (Below.refl _ _).alloc (Nat.le_refl _) _)
 obtain⟨g,hg⟩: ∃z,w.heap.size=z:=⟨_,rfl⟩
 go_enter Tryz.func90,Tryz.ntmps90
 go_upto_region 2 with (fail)
 rw[←hwb]
 clear hwb hmk hZ
 rw[hg] at HLR HB
 go_wp2_with (fail)
 go_loopw [6] (fun i wr=> ∃q:Nat,i= .int .i64 q∧q≤288∧Hid (Row g 3 1 wr (.slice (some ⟨g,0,none⟩) 288 288) 288 (iC (fil fxL 288 q)))∧Hid (Below g w wr)) (fun i _=>288-(intOf i).toNat)
 case atStart=>exact⟨0,rfl,Nat.zero_le _,HLR,HB⟩
 case round=>
  clear HLR HB
  obtain⟨q,rfl,hq,HLR,HB⟩:=hrel
  obtain⟨w5,rfl⟩: ∃z:World,z=wr:=⟨_,rfl⟩
  by_cases hqn:q<288
  ·as_aux_lemma=>
   have d1:decide (q<288)=true:=decide_eq_true hqn
   have d2:decide ((q:Int)<(288:Int))=true:=decide_eq_true (by omega)
   have q1:IntKind.i64.wrap ((q:Int)+1)=((q+1:Nat):Int):=by rw[IntWalk.i64_in _ (by omega)];omega
   have hqi:(q:Int)<(288:Int):=by omega
   have kp:=sl_same HLR.out.sl (by omega) q _ (iC_get (fil_get fxL (j:=q) hqn))
   rw[Nat.zero_add,if_neg (by omega)] at kp
   have fp:=HLR.out.frozenAt q
   have HST:=Lib.hid (fil_step fxL hqn)
   by_cases hc0:q<144
   ·have e0:decide (q<144)=true:=decide_eq_true hc0
    have e0':decide ((q:Int)<(144:Int))=true:=decide_eq_true (by omega)
    have HY:Hid (fxL q=8):=Lib.hid (by unfold fxL;(repeat' split)<;>omega)
    rw[HY.out] at HST
    have HL9:Hid (Row g 3 1 (w5.setCell ⟨g,q,none⟩ (.int .i64 8)) (.slice (some ⟨g,0,none⟩) 288 288) 288 (iC (fil fxL 288 (q+1)))):=Lib.hid (by
     rw[←HST.out,←iC_set]
     exact (World.ownsRow.stored HLR.out q (.int .i64 ((8:Nat):Int))).1)
    have HB9:=Lib.hid (HB.out.setCell (p:=⟨g,q,none⟩) (Nat.le_refl g) (.int .i64 8))
    go_wp2_with (fail)
    go_roundw
    case rel=>exact⟨q+1,rfl,hqn,HL9,HB9⟩
    case measure=>simp[intOf]<;>omega
   have e0:decide (q<144)=false:=decide_eq_false hc0
   have e0':decide ((q:Int)<(144:Int))=false:=decide_eq_false (by omega)
   by_cases hc1:q<256
   ·have e1:decide (q<256)=true:=decide_eq_true hc1
    have e1':decide ((q:Int)<(256:Int))=true:=decide_eq_true (by omega)
    have HY:Hid (fxL q=9):=Lib.hid (by unfold fxL;(repeat' split)<;>omega)
    rw[HY.out] at HST
    have HL9:Hid (Row g 3 1 (w5.setCell ⟨g,q,none⟩ (.int .i64 9)) (.slice (some ⟨g,0,none⟩) 288 288) 288 (iC (fil fxL 288 (q+1)))):=Lib.hid (by
     rw[←HST.out,←iC_set]
     exact (World.ownsRow.stored HLR.out q (.int .i64 ((9:Nat):Int))).1)
    have HB9:=Lib.hid (HB.out.setCell (p:=⟨g,q,none⟩) (Nat.le_refl g) (.int .i64 9))
    go_wp2_with (fail)
    go_roundw
    case rel=>exact⟨q+1,rfl,hqn,HL9,HB9⟩
    case measure=>simp[intOf]<;>omega
   have e1:decide (q<256)=false:=decide_eq_false hc1
   have e1':decide ((q:Int)<(256:Int))=false:=decide_eq_false (by omega)
   by_cases hc2:q<280
   ·have e2:decide (q<280)=true:=decide_eq_true hc2
    have e2':decide ((q:Int)<(280:Int))=true:=decide_eq_true (by omega)
    have HY:Hid (fxL q=7):=Lib.hid (by unfold fxL;(repeat' split)<;>omega)
    rw[HY.out] at HST
    have HL9:Hid (Row g 3 1 (w5.setCell ⟨g,q,none⟩ (.int .i64 7)) (.slice (some ⟨g,0,none⟩) 288 288) 288 (iC (fil fxL 288 (q+1)))):=Lib.hid (by
     rw[←HST.out,←iC_set]
     exact (World.ownsRow.stored HLR.out q (.int .i64 ((7:Nat):Int))).1)
    have HB9:=Lib.hid (HB.out.setCell (p:=⟨g,q,none⟩) (Nat.le_refl g) (.int .i64 7))
    go_wp2_with (fail)
    go_roundw
    case rel=>exact⟨q+1,rfl,hqn,HL9,HB9⟩
    case measure=>simp[intOf]<;>omega
   have e2:decide (q<280)=false:=decide_eq_false hc2
   have e2':decide ((q:Int)<(280:Int))=false:=decide_eq_false (by omega)
   have HY:Hid (fxL q=8):=Lib.hid (by unfold fxL;(repeat' split)<;>omega)
   rw[HY.out] at HST
   have HL9:Hid (Row g 3 1 (w5.setCell ⟨g,q,none⟩ (.int .i64 8)) (.slice (some ⟨g,0,none⟩) 288 288) 288 (iC (fil fxL 288 (q+1)))):=Lib.hid (by
    rw[←HST.out,←iC_set]
    exact (World.ownsRow.stored HLR.out q (.int .i64 ((8:Nat):Int))).1)
   have HB9:=Lib.hid (HB.out.setCell (p:=⟨g,q,none⟩) (Nat.le_refl g) (.int .i64 8))
   go_wp2_with (fail)
   go_roundw
   case rel=>exact⟨q+1,rfl,hqn,HL9,HB9⟩
   case measure=>simp[intOf]<;>omega
  ·have d1:decide (q<288)=false:=decide_eq_false hqn
   have d2:decide ((q:Int)<(288:Int))=false:=decide_eq_false (by omega)
   obtain rfl:q=288:=by omega
   rw[fil_fixL] at HLR
   go_wp2_with (fail)
   go_ret
   exact⟨_,rfl,by rw[hg];exact HLR.out,by rw[hg];exact HB.out⟩
set_option maxHeartbeats 4000000 in
theorem fixd_any (w:World):Calls Tryz.prog 91 #[] w fun e w'=> ∃v',e= .returned v'∧Row w.heap.size 3 1 w' v' 32 (iC fixD)∧Below w.heap.size w w':=by
 have hmk:=hmkI 32 w (by omega)
 rw[show (((32:Nat):Nat):Int)=(32:Int) from rfl] at hmk
 obtain⟨Z,hZ⟩: ∃z,iC (List.replicate 32 0)=z:=⟨_,rfl⟩
 rw[hZ] at hmk
 obtain⟨wb,hwb⟩: ∃z:World,z=w.alloc (.cells Z.toArray 3):=⟨_,rfl⟩
 have HLR:Hid (Row w.heap.size 3 1 wb (.slice (some ⟨w.heap.size,0,none⟩) 32 32) 32 (iC (fil fxD 32 0))):=Lib.hid (by
  rw[hwb,fil_zero,←hZ]
  exact Row.lit w _ (Nat.le_refl _) (by omega) (by rw[iC_len];simp))
 have HB:Hid (Below w.heap.size w wb):=Lib.hid (by rw[hwb];exact (Below.refl _ _).alloc (Nat.le_refl _) _)
 obtain⟨g,hg⟩: ∃z,w.heap.size=z:=⟨_,rfl⟩
 go_enter Tryz.func91,Tryz.ntmps91
 go_upto_region 2 with (fail)
 rw[←hwb]
 clear hwb hmk hZ
 rw[hg] at HLR HB
 go_wp2_with (fail)
 go_loopw [6] (fun i wr=> ∃q:Nat,i= .int .i64 q∧q≤32∧Hid (Row g 3 1 wr (.slice (some ⟨g,0,none⟩) 32 32) 32 (iC (fil fxD 32 q)))∧Hid (Below g w wr)) (fun i _=>32-(intOf i).toNat)
 case atStart=>exact⟨0,rfl,Nat.zero_le _,HLR,HB⟩
 case round=>
  clear HLR HB
  obtain⟨q,rfl,hq,HLR,HB⟩:=hrel
  obtain⟨w5,rfl⟩: ∃z:World,z=wr:=⟨_,rfl⟩
  by_cases hqn:q<32
  ·as_aux_lemma=>
   have d1:decide (q<32)=true:=decide_eq_true hqn
   have d2:decide ((q:Int)<(32:Int))=true:=decide_eq_true (by omega)
   have q1:IntKind.i64.wrap ((q:Int)+1)=((q+1:Nat):Int):=by rw[IntWalk.i64_in _ (by omega)];omega
   have hqi:(q:Int)<(32:Int):=by omega
   have kp:=sl_same HLR.out.sl (by omega) q _ (iC_get (fil_get fxD (j:=q) hqn))
   rw[Nat.zero_add,if_neg (by omega)] at kp
   have fp:=HLR.out.frozenAt q
   have HST:=Lib.hid (fil_step fxD hqn)
   have HY:Hid (fxD q=5):=Lib.hid (by unfold fxD;rfl)
   rw[HY.out] at HST
   have HL9:Hid (Row g 3 1 (w5.setCell ⟨g,q,none⟩ (.int .i64 5)) (.slice (some ⟨g,0,none⟩) 32 32) 32 (iC (fil fxD 32 (q+1)))):=Lib.hid (by
    rw[←HST.out,←iC_set]
    exact (World.ownsRow.stored HLR.out q (.int .i64 ((5:Nat):Int))).1)
   have HB9:=Lib.hid (HB.out.setCell (p:=⟨g,q,none⟩) (Nat.le_refl g) (.int .i64 5))
   go_wp2_with (fail)
   go_roundw
   case rel=>exact⟨q+1,rfl,hqn,HL9,HB9⟩
   case measure=>simp[intOf]<;>omega
  ·have d1:decide (q<32)=false:=decide_eq_false hqn
   have d2:decide ((q:Int)<(32:Int))=false:=decide_eq_false (by omega)
   obtain rfl:q=32:=by omega
   rw[fil_fixD] at HLR
   go_wp2_with (fail)
   go_ret
   exact⟨_,rfl,by rw[hg];exact HLR.out,by rw[hg];exact HB.out⟩
theorem order_any (i:Nat) (hi:i<19) (w:World) (hG:Gl w):Calls Tryz.prog 98 #[.int .i64 (i:Nat)] w fun e w'=>e= .returned (.int .i64 (Mc.odr.getD i 0:Nat))∧w'=w:=by
 have kx:=hG.odr i hi
 have d1:decide ((i:Int)<0)=false:=decide_eq_false (by omega)
 have d2:decide ((19:Int)≤(i:Int))=false:=decide_eq_false (by omega)
 have d3:decide (19≤i)=false:=decide_eq_false (by omega)
 have hii:(i:Int)<19:=by omega
 obtain⟨X,hX⟩: ∃z,Mc.odr.getD i 0=z:=⟨_,rfl⟩
 rw[hX] at kx ⊢
 clear hX hG
 go_enter Tryz.func98,Tryz.ntmps98
 go_wp2_with (fail)
 go_ret
 exact⟨by rfl,rfl⟩
theorem lbase_any (i:Nat) (hi:i<29) (w:World) (hG:Gl w):Calls Tryz.prog 103 #[.int .i64 ((257+i:Nat):Int)] w fun e w'=>e= .returned (.tuple #[.int .i64 (Mc.lB.getD i 0:Nat),.int .i64 (Mc.lX.getD i 0:Nat),.bool true])∧Below w.heap.size w w':=by
 have kx:=hG.lB i hi
 have ky:=hG.lX i hi
 obtain⟨J,hJ⟩: ∃z,257+i=z:=⟨_,rfl⟩
 have d1:decide ((J:Int)<257)=false:=decide_eq_false (by omega)
 have d1':decide (J<257)=false:=decide_eq_false (by omega)
 have d2:decide ((286:Int)≤(J:Int))=false:=decide_eq_false (by omega)
 have d3:decide (286≤J)=false:=decide_eq_false (by omega)
 have q1:IntKind.i64.wrap ((J:Int)-257)=(i:Int):=by rw[IntWalk.i64_in _ (by omega)];omega
 have hii:(i:Int)<29:=by omega
 obtain⟨X,hX⟩: ∃z,Mc.lB.getD i 0=z:=⟨_,rfl⟩
 obtain⟨Y,hY⟩: ∃z,Mc.lX.getD i 0=z:=⟨_,rfl⟩
 rw[hX] at kx
 rw[hY] at ky
 rw[hJ,hX,hY]
 clear hX hY hG hJ
 go_enter Tryz.func103,Tryz.ntmps103
 go_upto_region 3 with (fail)
 go_quiet (fail)
 go_wp2_with (fail)
 go_ret3
 exact⟨by rfl,below_drewN (Below.refl _ _) _⟩
theorem dbase_any (i:Nat) (hi:i<30) (w:World) (hG:Gl w):Calls Tryz.prog 104 #[.int .i64 (i:Nat)] w fun e w'=>e= .returned (.tuple #[.int .i64 (Mc.dB.getD i 0:Nat),.int .i64 (Mc.dX i:Nat),.bool true])∧w'=w:=by
 have kx:=hG.dB i hi
 have d1:decide ((i:Int)<0)=false:=decide_eq_false (by omega)
 have d2:decide ((30:Int)≤(i:Int))=false:=decide_eq_false (by omega)
 have d3:decide (30≤i)=false:=decide_eq_false (by omega)
 have t1:((i:Nat):Int).tdiv 2=((i/2:Nat):Int):=by rw[Int.tdiv_eq_ediv_of_nonneg (by omega)];rfl
 obtain⟨H2,hh⟩: ∃z,i/2=z:=⟨_,rfl⟩
 rw[hh] at t1
 have q0:IntKind.i64.wrap (H2:Int)=(H2:Int):=IntWalk.i64_in _ (by omega)
 have q1:IntKind.i64.wrap ((H2:Int)-1)=(H2:Int)-1:=IntWalk.i64_in _ (by omega)
 have hii:(i:Int)<30:=by omega
 obtain⟨X,hX⟩: ∃z,Mc.dB.getD i 0=z:=⟨_,rfl⟩
 obtain⟨Y,hY⟩: ∃z,Mc.dX i=z:=⟨_,rfl⟩
 have hY2:Y=H2-1:=by rw[←hY,←hh];rfl
 have y1:(if (0:Int)<(H2:Int)-1 then (H2:Int)-1 else 0)=((Y:Nat):Int):=by split<;>omega
 rw[hX] at kx ⊢
 rw[hY]
 have HY2:=Lib.hid hY2
 clear hX hY hG hh hY2
 go_enter Tryz.func104,Tryz.ntmps104
 by_cases hm:1<H2
 ·have m1:((H2:Int)-1<0)=False:=by simp;omega
  have hmi:1<(H2:Int):=by omega
  go_wp2_with (fail)
  all_goals first
   |omega
   |(go_ret3
     exact⟨by rw[HY2.out,show ((H2-1:Nat):Int)=(H2:Int)-1 by omega];rfl,rfl⟩)
 ·have hmi:(H2:Int)≤1:=by omega
  go_wp2_with (fail)
  all_goals first
   |omega
   |(go_ret3
     exact⟨by rw[HY2.out,show H2-1=0 by omega];rfl,rfl⟩)
theorem search_any (gc:Nat) (cv:Value) (n t:Nat) (w:World) (ht:t≤n) (hn:n≤1000) (hcf: ∀args W,(callFunc gc args).run Tryz.prog W= .ok (.enter gc args) W) (hc: ∀W h,Below w.heap.size w W→h<n→Calls Tryz.prog gc #[.int .i64 (h:Nat),cv] W fun e W'=>e= .returned (.bool (decide (t≤h)))∧Below W.heap.size W W'):
  Calls Tryz.prog 183 #[.int .i64 (n:Nat),.func (.func gc) #[] #[cv]] w fun e w'=>e= .returned (.int .i64 (t:Nat))∧Below w.heap.size w w':=by
 have HC:=Lib.hid hc
 clear hc
 go_enter Tryz.func183,Tryz.ntmps183
 go_wp2_with (fail)
 go_loopw [5,6] (fun i j wr=> ∃a b:Nat,i= .int .i64 a∧j= .int .i64 b∧a≤t∧t≤b∧b≤n∧Hid (Below w.heap.size w wr)) (fun i j _=>(intOf j).toNat-(intOf i).toNat)
 case atStart=>exact⟨0,n,rfl,rfl,Nat.zero_le _,ht,Nat.le_refl _,Lib.hid (Below.refl _ _)⟩
 case round=>
  obtain⟨a,b,rfl,rfl,h1,h2,h3,HB⟩:=hrel
  by_cases hlt:a<b
  ·obtain⟨h,hh⟩: ∃z,(a+b)/2=z:=⟨_,rfl⟩
   obtain⟨s,hs⟩: ∃z,a+b=z:=⟨_,rfl⟩
   have d1:decide (a<b)=true:=decide_eq_true hlt
   have d1':decide ((a:Int)<(b:Int))=true:=decide_eq_true (by omega)
   have q1:IntKind.i64.wrap ((a:Int)+(b:Int))=((s:Nat):Int):=by rw[IntWalk.i64_in _ (by omega)];omega
   have q2:IntKind.u64.wrap ((s:Nat):Int)=((s:Nat):Int):=by simp[IntKind.wrap,IntKind.signed,IntKind.bits];omega
   have q2':((s:Nat):Int)%(18446744073709551616:Int)=((s:Nat):Int):=by omega
   have q3:((s:Nat):Int)/(2:Int)=((h:Nat):Int):=by omega
   have q4:IntKind.i64.wrap ((h:Nat):Int)=((h:Nat):Int):=IntWalk.i64_in _ (by omega)
   have q5:IntKind.i64.wrap ((h:Int)+1)=((h+1:Nat):Int):=by rw[IntWalk.i64_in _ (by omega)];omega
   have HZ:=Lib.hid (HC.out wr h HB.out (by omega))
   go_wp2_with (fail)
   refine HZ.out.mono ?_
   rintro e w2 ⟨rfl,hb2⟩
   have HB:=Lib.hid (HB.out.trans (hb2.mono HB.out.size))
   clear hb2
   by_cases hth:t≤h
   ·have d2:decide (t≤h)=true:=decide_eq_true hth
    go_wp2_with (fail)
    go_roundw
    case rel=>exact⟨a,h,rfl,rfl,h1,hth,by omega,HB⟩
    case measure=>simp[intOf]<;>omega
   ·have d2:decide (t≤h)=false:=decide_eq_false hth
    go_wp2_with (fail)
    go_roundw
    case rel=>exact⟨h+1,b,rfl,rfl,by omega,h2,h3,HB⟩
    case measure=>simp[intOf]<;>omega
  ·have d1:decide (a<b)=false:=decide_eq_false hlt
   have d1':decide ((a:Int)<(b:Int))=false:=decide_eq_false (by omega)
   obtain rfl:a=t:=by omega
   go_wp2_with (fail)
   go_ret
   exact⟨by rfl,HB.out⟩
theorem length1_any (n h b:Nat) (hh:h<29) (w:World) (hG:Gl w) (hc:w.cell? ⟨b,0,none⟩=some (.int .i64 (n:Nat))):Calls Tryz.prog 184 #[.int .i64 (h:Nat),.pointer (some ⟨b,0,none⟩)] w fun e w'=>e= .returned (.bool (decide (Mc.lB.countP (· ≤n)≤h)))∧Below w.heap.size w w':=by
 have kx:=hG.lB h hh
 have hhi:(h:Int)<29:=by omega
 have hI:=Mc.plc_iff n Mc.lB Mc.lB_asc h hh
 obtain⟨X,hX⟩: ∃z,Mc.lB.getD h 0=z:=⟨_,rfl⟩
 rw[hX] at kx hI
 have HY:Hid (decide (n<X)=decide (Mc.lB.countP (· ≤n)≤h)):=Lib.hid (by
  by_cases hx:n<X
  ·rw[decide_eq_true hx,decide_eq_true (by omega)]
  ·rw[decide_eq_false hx,decide_eq_false (by omega)])
 have HY2:Hid (decide ((n:Int)<(X:Int))=decide (Mc.lB.countP (· ≤n)≤h)):=Lib.hid (by rw[←HY.out];simp)
 clear hX hG hI
 go_enter Tryz.func184,Tryz.ntmps184
 go_upto_region 1 with (fail)
 go_quiet (fail)
 go_wp2_with (fail)
 go_ret
 exact⟨by first|rw[←HY.out];rfl|rw[←HY2.out];rfl,below_drewN (Below.refl _ _) _⟩
theorem length_cf (args:Array Value) (w:World):(callFunc 184 args).run Tryz.prog w= .ok (.enter 184 args) w:=by kernel_rfl
theorem dist1_any (n h b:Nat) (hh:h<30) (w:World) (hG:Gl w) (hc:w.cell? ⟨b,0,none⟩=some (.int .i64 (n:Nat))):Calls Tryz.prog 185 #[.int .i64 (h:Nat),.pointer (some ⟨b,0,none⟩)] w fun e w'=>e= .returned (.bool (decide (Mc.dB.countP (· ≤n)≤h)))∧Below w.heap.size w w':=by
 have kx:=hG.dB h hh
 have hhi:(h:Int)<30:=by omega
 have hI:=Mc.plc_iff n Mc.dB Mc.dB_asc h hh
 obtain⟨X,hX⟩: ∃z,Mc.dB.getD h 0=z:=⟨_,rfl⟩
 rw[hX] at kx hI
 have HY:Hid (decide (n<X)=decide (Mc.dB.countP (· ≤n)≤h)):=Lib.hid (by
  by_cases hx:n<X
  ·rw[decide_eq_true hx,decide_eq_true (by omega)]
  ·rw[decide_eq_false hx,decide_eq_false (by omega)])
 have HY2:Hid (decide ((n:Int)<(X:Int))=decide (Mc.dB.countP (· ≤n)≤h)):=Lib.hid (by rw[←HY.out];simp)
 clear hX hG hI
 go_enter Tryz.func185,Tryz.ntmps185
 go_upto_region 1 with (fail)
 go_quiet (fail)
 go_wp2_with (fail)
 go_ret
 exact⟨by first|rw[←HY.out];rfl|rw[←HY2.out];rfl,below_drewN (Below.refl _ _) _⟩
theorem dist_cf (args:Array Value) (w:World):(callFunc 185 args).run Tryz.prog w= .ok (.enter 185 args) w:=by kernel_rfl
set_option maxHeartbeats 4000000 in
theorem length_any (n:Nat) (h3:3≤n) (hn:n≤258) (w:World) (hG:Gl w):Calls Tryz.prog 158 #[.int .i64 (n:Nat)] w fun e w'=>e= .returned (.tuple #[.agg #[.int .i64 ((257+Mc.plc Mc.lB n:Nat):Int),.int .i64 (Mc.lX.getD (Mc.plc Mc.lB n) 0:Nat),.int .i64 ((n-Mc.lB.getD (Mc.plc Mc.lB n) 0:Nat):Int)],.bool true])∧Below w.heap.size w w':=by
 have hmf: ∀(fn:Fn) (first cap:Array Value) (w:World),(Instr.makeFunc fn first cap).run Tryz.prog w= .ok (.func fn first cap) w:=fun _ _ _ _=>rfl
 have d1:decide (n<3)=false:=decide_eq_false (by omega)
 have d1':decide ((n:Int)<3)=false:=decide_eq_false (by omega)
 have d2:decide (258<n)=false:=decide_eq_false (by omega)
 have d2':decide ((258:Int)<(n:Int))=false:=decide_eq_false (by omega)
 obtain⟨p1,p2,_⟩:=Mc.len_part n (by omega) h3
 have hct:Mc.lB.countP (· ≤n)=Mc.plc Mc.lB n+1:=by
  have:=(Mc.plc_iff n Mc.lB Mc.lB_asc 0 (by decide)).1 h3
  unfold Mc.plc
  omega
 obtain⟨wa,hwa⟩: ∃z:World,z=(w.alloc (.cells #[.int .i64 (n:Nat)] 3)).alloc (.cells #[.int .i64 0,.int .i64 0,.int .i64 0] 272):=⟨_,rfl⟩
 have HB:Hid (Below w.heap.size w wa):=Lib.hid (by rw[hwa];exact ((Below.refl _ _).alloc (Nat.le_refl _) _).alloc (by simp) _)
 have HN:Hid (Own wa w.heap.size [.int .i64 (n:Nat)]):=Lib.hid (by rw[hwa];exact (Own.new_at w [.int .i64 (n:Nat)] 3 _ rfl).below ((Below.refl _ _).alloc (Nat.le_refl _) _) (by simp))
 have HP:Hid (Own wa (w.heap.size+1) [.int .i64 0,.int .i64 0,.int .i64 0]):=Lib.hid (by rw[hwa];exact Own.new_at _ [.int .i64 0,.int .i64 0,.int .i64 0] _ _ (by simp))
 have hza:w.heap.size+2≤wa.heap.size:=by rw[hwa];simp
 have HG:=Lib.hid hG
 go_enter Tryz.func158,Tryz.ntmps158
 go_upto_region 1 with (fail)
 rw[←hwa]
 obtain⟨B,hB⟩: ∃z,w.heap.size=z:=⟨_,rfl⟩
 rw[hB] at HB HN HP hza ⊢
 have HSE:=Lib.hid (search_any 184 (.pointer (some ⟨B,0,none⟩)) 29 (Mc.plc Mc.lB n+1) wa (by omega) (by omega) length_cf (fun W h hW hh=>by
  rw[←hct]
  exact length1_any n h B hh W (HG.out.below (by rw[hB];exact HB.out.trans (hW.mono (by omega)))) ((HN.out.below hW (by omega)).1 0 _ rfl)))
 have k0:=HN.out.1 0 _ rfl
 clear hwa hG hct
 go_wp2_with (fail)
 refine HSE.out.mono ?_
 rintro e w2 ⟨rfl,hb2⟩
 have HG2:=Lib.hid (HG.out.below (by rw[hB];exact HB.out.trans (hb2.mono (by omega))))
 have HN2:=Lib.hid (HN.out.below hb2 (by omega))
 have HP2:=Lib.hid (HP.out.below hb2 (by omega))
 have HB2:=Lib.hid (HB.out.trans (hb2.mono (by omega)))
 have hz2:B+2≤w2.heap.size:=by have:=hb2.size;omega
 obtain⟨P,hP⟩: ∃z,Mc.plc Mc.lB n=z:=⟨_,rfl⟩
 rw[hP] at p1 p2 ⊢
 have q1:IntKind.i64.wrap (((P+1:Nat):Int)-1)=((P:Nat):Int):=by rw[IntWalk.i64_in _ (by omega)];omega
 have q1':IntKind.i64.wrap (((P:Nat):Int)+1-1)=((P:Nat):Int):=by rw[IntWalk.i64_in _ (by omega)];omega
 have q2:IntKind.i64.wrap (257+((P:Nat):Int))=((257+P:Nat):Int):=by rw[IntWalk.i64_in _ (by omega)];omega
 have kx:=HG2.out.lX P p1
 have ky:=HG2.out.lB P p1
 have k1:=HN2.out.1 0 _ rfl
 have m0:=HP2.out.1 0 _ rfl
 have m1:=HP2.out.1 1 _ rfl
 have m2:=HP2.out.1 2 _ rfl
 have f0:=HP2.out.2 0
 have f1:=HP2.out.2 1
 have f2:=HP2.out.2 2
 obtain⟨X,hX⟩: ∃z,Mc.lX.getD P 0=z:=⟨_,rfl⟩
 obtain⟨Y,hY⟩: ∃z,Mc.lB.getD P 0=z:=⟨_,rfl⟩
 rw[hX] at kx
 rw[hY] at ky p2
 have HX:=Lib.hid hX
 have HY:=Lib.hid hY
 have HP0:=Lib.hid hP
 have q3:IntKind.i64.wrap (((n:Nat):Int)-((Y:Nat):Int))=((n-Y:Nat):Int):=by rw[IntWalk.i64_in _ (by omega)];omega
 have hPi:(P:Int)<29:=by omega
 clear hX hY hP hb2 HSE k0 HB HN HP hza HG HG2
 go_upto_region 4 with (fail)
 go_region
 all_goals
  go_wp2_with (fail)
  refine bodyPost_ret (v:= .tuple #[.agg #[.int .i64 ((257+P:Nat):Int),.int .i64 (X:Nat),.int .i64 ((n-Y:Nat):Int)],.bool true]) (by simp[results,Tryz.results158,go_sem,m0,m1,m2]) rfl ⟨by rw[HP0.out,HX.out,HY.out],?_⟩
  rw[hB]
  exact (((HB2.out.setCell (p:=⟨B+1,0,none⟩) (Nat.le_succ B) _).setCell (p:=⟨B+1,1,none⟩) (Nat.le_succ B) _).setCell (p:=⟨B+1,2,none⟩) (Nat.le_succ B) _).drew
set_option maxHeartbeats 4000000 in
theorem dist_any (n:Nat) (h3:1≤n) (hn:n≤32768) (w:World) (hG:Gl w):Calls Tryz.prog 159 #[.int .i64 (n:Nat)] w fun e w'=>e= .returned (.tuple #[.agg #[.int .i64 (Mc.plc Mc.dB n:Nat),.int .i64 (Mc.dX (Mc.plc Mc.dB n):Nat),.int .i64 ((n-Mc.dB.getD (Mc.plc Mc.dB n) 0:Nat):Int)],.bool true])∧Below w.heap.size w w':=by
 have hmf: ∀(fn:Fn) (first cap:Array Value) (w:World),(Instr.makeFunc fn first cap).run Tryz.prog w= .ok (.func fn first cap) w:=fun _ _ _ _=>rfl
 have d1:decide (n<1)=false:=decide_eq_false (by omega)
 have d1':decide ((n:Int)<1)=false:=decide_eq_false (by omega)
 have d2:decide (32768<n)=false:=decide_eq_false (by omega)
 have d2':decide ((32768:Int)<(n:Int))=false:=decide_eq_false (by omega)
 obtain⟨p1,p2,_⟩:=Mc.dist_part n h3 hn
 have hct:Mc.dB.countP (· ≤n)=Mc.plc Mc.dB n+1:=by
  have:=(Mc.plc_iff n Mc.dB Mc.dB_asc 0 (by decide)).1 h3
  unfold Mc.plc
  omega
 obtain⟨wa,hwa⟩: ∃z:World,z=(w.alloc (.cells #[.int .i64 (n:Nat)] 3)).alloc (.cells #[.int .i64 0,.int .i64 0,.int .i64 0] 272):=⟨_,rfl⟩
 have HB:Hid (Below w.heap.size w wa):=Lib.hid (by rw[hwa];exact ((Below.refl _ _).alloc (Nat.le_refl _) _).alloc (by simp) _)
 have HN:Hid (Own wa w.heap.size [.int .i64 (n:Nat)]):=Lib.hid (by rw[hwa];exact (Own.new_at w [.int .i64 (n:Nat)] 3 _ rfl).below ((Below.refl _ _).alloc (Nat.le_refl _) _) (by simp))
 have HP:Hid (Own wa (w.heap.size+1) [.int .i64 0,.int .i64 0,.int .i64 0]):=Lib.hid (by rw[hwa];exact Own.new_at _ [.int .i64 0,.int .i64 0,.int .i64 0] _ _ (by simp))
 have hza:w.heap.size+2≤wa.heap.size:=by rw[hwa];simp
 have HG:=Lib.hid hG
 go_enter Tryz.func159,Tryz.ntmps159
 go_upto_region 1 with (fail)
 rw[←hwa]
 obtain⟨B,hB⟩: ∃z,w.heap.size=z:=⟨_,rfl⟩
 rw[hB] at HB HN HP hza ⊢
 have HSE:=Lib.hid (search_any 185 (.pointer (some ⟨B,0,none⟩)) 30 (Mc.plc Mc.dB n+1) wa (by omega) (by omega) dist_cf (fun W h hW hh=>by
  rw[←hct]
  exact dist1_any n h B hh W (HG.out.below (by rw[hB];exact HB.out.trans (hW.mono (by omega)))) ((HN.out.below hW (by omega)).1 0 _ rfl)))
 have k0:=HN.out.1 0 _ rfl
 clear hwa hG hct
 go_wp2_with (fail)
 refine HSE.out.mono ?_
 rintro e w2 ⟨rfl,hb2⟩
 have HG2:=Lib.hid (HG.out.below (by rw[hB];exact HB.out.trans (hb2.mono (by omega))))
 have HN2:=Lib.hid (HN.out.below hb2 (by omega))
 have HP2:=Lib.hid (HP.out.below hb2 (by omega))
 have HB2:=Lib.hid (HB.out.trans (hb2.mono (by omega)))
 have hz2:B+2≤w2.heap.size:=by have:=hb2.size;omega
 obtain⟨P,hP⟩: ∃z,Mc.plc Mc.dB n=z:=⟨_,rfl⟩
 rw[hP] at p1 p2 ⊢
 have q1:IntKind.i64.wrap (((P+1:Nat):Int)-1)=((P:Nat):Int):=by rw[IntWalk.i64_in _ (by omega)];omega
 have q1':IntKind.i64.wrap (((P:Nat):Int)+1-1)=((P:Nat):Int):=by rw[IntWalk.i64_in _ (by omega)];omega
 have HDB:=Lib.hid (dbase_any P p1 w2 HG2.out)
 have k1:=HN2.out.1 0 _ rfl
 have m0:=HP2.out.1 0 _ rfl
 have m1:=HP2.out.1 1 _ rfl
 have m2:=HP2.out.1 2 _ rfl
 have f0:=HP2.out.2 0
 have f1:=HP2.out.2 1
 have f2:=HP2.out.2 2
 obtain⟨X,hX⟩: ∃z,Mc.dX P=z:=⟨_,rfl⟩
 obtain⟨Y,hY⟩: ∃z,Mc.dB.getD P 0=z:=⟨_,rfl⟩
 rw[hX,hY] at HDB
 rw[hY] at p2
 have HX:=Lib.hid hX
 have HY:=Lib.hid hY
 have HP0:=Lib.hid hP
 have q3:IntKind.i64.wrap (((n:Nat):Int)-((Y:Nat):Int))=((n-Y:Nat):Int):=by rw[IntWalk.i64_in _ (by omega)];omega
 have hPi:(P:Int)<30:=by omega
 clear hX hY hP hb2 HSE k0 HB HN HP hza HG HG2
 go_wp2_with (fail)
 refine HDB.out.mono ?_
 rintro e w3 ⟨rfl,rfl⟩
 go_wp2_with (fail)
 refine bodyPost_ret (v:= .tuple #[.agg #[.int .i64 (P:Nat),.int .i64 (X:Nat),.int .i64 ((n-Y:Nat):Int)],.bool true]) (by simp[results,Tryz.results159,go_sem,m0,m1,m2]) rfl ⟨by rw[HP0.out,HX.out,HY.out],?_⟩
 rw[hB]
 exact (((HB2.out.setCell (p:=⟨B+1,0,none⟩) (Nat.le_succ B) _).setCell (p:=⟨B+1,1,none⟩) (Nat.le_succ B) _).setCell (p:=⟨B+1,2,none⟩) (Nat.le_succ B) _)
end Go.Proofs.YtmdgeoalamancaaGreatDoor
namespace Go.Proofs.YtmdgeoalamancaaGreatDoor
open Go.RowKit
open Bt Can Mc
def Bk (w:World) (b t:Nat) (cs:List Value):Prop:=w.heap[b]? =some (.cells cs.toArray t (0,0))
section
variable {w w':World} {b t:Nat} {cs:List Value}
theorem Bk.lt (h:Bk w b t cs):b<w.heap.size:=by
 rcases Nat.lt_or_ge b w.heap.size with h1|h1
 ·exact h1
 ·rw[Bk,Array.getElem?_eq_none h1] at h;cases h
theorem Bk.own (h:Bk w b t cs):Own w b cs:=⟨fun j v hj=>by rw[cell_of_row w b j cs.toArray t (0,0) h];simpa using hj,fun j=>frozen_of_row w b j cs.toArray t h⟩
theorem Bk.fr {F:List Nat} (h:Bk w b t cs) (hf:Fr F w w') (hn:b ∉ F):Bk w' b t cs:=by
 unfold Bk
 rw[hf.block b h.lt hn]
 exact h
theorem Bk.below (h:Bk w b t cs) (hb:Below w.heap.size w w'):Bk w' b t cs:=h.fr (Fr.of_below (F:=[]) hb) (fun h=>by cases h)
theorem Bk.set (h:Bk w b t cs) (j:Nat) (v:Value):Bk (w.setCell ⟨b,j,none⟩ v) b t (cs.set j v):=by
 have:=heap_setCell_same w b j cs.toArray t v h
 unfold Bk
 rw[this]
 simp
theorem Bk.new (w:World) (t:Nat) (cs:List Value):Bk (w.alloc (.cells cs.toArray t)) w.heap.size t cs:=heap_alloc_new _ _
end
theorem bC_set (l:List Nat) (j x:Nat):(bC l).set j (.int .u8 (x:Nat))=bC (l.set j x):=by unfold bC;rw[List.map_set]
theorem bC_rep (n:Nat):bC (List.replicate n 0)=List.replicate n (.int .u8 0):=by unfold bC;rw[List.map_replicate];rfl
theorem hmkB (n:Nat) (W:World) (hn:n≤2000000):(Instr.makeSlice 23 (.int .i64 ((n:Nat):Int)) (.int .i64 ((n:Nat):Int))).run Tryz.prog W= .ok (.slice (some ⟨W.heap.size,0,none⟩) n n) (W.alloc (.cells (bC (List.replicate n 0)).toArray 5)):=by
 obtain⟨i0,hi,hz0,hz1,hz2⟩:=info_parts info_u8
 have:=run_makeSlice (P:=Tryz.prog) W 23 5 i0 (.int .u8 0) Tryz.underlying23 hi hz0 .i64 .i64 ((n:Nat):Int) ((n:Nat):Int) (by omega) (Int.le_refl _) (by rw[hz1];omega) (by rw[hz2];omega) (by omega)
 rw[this,hz1,made_one n _ rfl,bC_rep]
 rw[show (((n:Nat):Int)).toNat=n by omega]
def Wi (w:World) (wb:Nat) (T:List Nat):Prop:=
 ∃rg:List Nat,rg.length=32768∧T.length≤32768∧(∀j x:Nat,T[j]? =some x→rg[j]? =some x)∧Bk w wb 108 (bC rg++[.int .i64 (T.length:Nat)])
section
variable {w w':World} {wb:Nat} {T:List Nat}
theorem Wi.lt (h:Wi w wb T):wb<w.heap.size:=by
 obtain⟨_,_,_,_,h⟩:=h
 exact h.lt
theorem Wi.fr {F:List Nat} (h:Wi w wb T) (hf:Fr F w w') (hn:wb ∉ F):Wi w' wb T:=by
 obtain⟨rg,h1,h2,h3,h4⟩:=h
 exact⟨rg,h1,h2,h3,h4.fr hf hn⟩
theorem Wi.below (h:Wi w wb T) (hb:Below w.heap.size w w'):Wi w' wb T:=h.fr (Fr.of_below (F:=[]) hb) (fun h=>by cases h)
theorem Wi.all (h:Wi w wb T):w.cell? ⟨wb,32768,none⟩=some (.int .i64 (T.length:Nat))∧w.frozen? ⟨wb,32768,none⟩=false:=by
 obtain⟨rg,h1,h2,h3,h4⟩:=h
 exact⟨h4.own.1 32768 _ (by rw[List.getElem?_append_right (by rw[bC_len];omega),bC_len,h1];rfl),h4.own.2 _⟩
end
theorem win_zero:Tryz.zeroCells108=(bC (List.replicate 32768 0)++[Value.int .i64 0]).toArray:=by kernel_rfl
set_option maxHeartbeats 1000000 in
theorem neww_any (w:World):Calls Tryz.prog 24 #[] w fun e w'=> ∃wb,e= .returned (.pointer (some ⟨wb,0,none⟩))∧w.heap.size≤wb∧Wi w' wb []∧Below w.heap.size w w':=by
 go_enter Tryz.func24,Tryz.ntmps24
 go_wp2_with (fail)
 go_ret
 refine⟨w.heap.size,rfl,Nat.le_refl _,⟨List.replicate 32768 0,by rw[List.length_replicate],by simp,fun j x h=>by simp at h,?_⟩,(Below.refl _ _).alloc (Nat.le_refl _) _⟩
 rw[List.length_nil,show ((0:Nat):Int)=0 from rfl,win_zero]
 exact Bk.new w _ _
theorem all_any (T:List Nat) (wb:Nat) (w:World) (h:Wi w wb T):Calls Tryz.prog 34 #[.pointer (some ⟨wb,0,none⟩)] w fun e w'=>e= .returned (.int .i64 (T.length:Nat))∧w'=w:=by
 have k0:=h.all.1
 clear h
 go_enter Tryz.func34,Tryz.ntmps34
 go_wp2_with (fail)
 go_ret
 exact⟨by rfl,rfl⟩
theorem wlen_any (T:List Nat) (wb:Nat) (w:World) (h:Wi w wb T):Calls Tryz.prog 105 #[.pointer (some ⟨wb,0,none⟩)] w fun e w'=>e= .returned (.int .i64 (T.length:Nat))∧w'=w:=by
 have k0:=h.all.1
 have hl:T.length≤32768:=by obtain⟨_,_,h,_⟩:=h;exact h
 obtain⟨n,hn⟩: ∃z,T.length=z:=⟨_,rfl⟩
 rw[hn] at k0 hl ⊢
 have q1:(if (32768:Int)<(n:Int) then (32768:Int) else (n:Int))=(n:Int):=by split<;>omega
 have d1:decide (32768<n)=false:=decide_eq_false (by omega)
 have d2:decide ((32768:Int)<(n:Int))=false:=decide_eq_false (by omega)
 have hnl: ¬(32768<n):=by omega
 clear h hn
 go_enter Tryz.func105,Tryz.ntmps105
 go_wp2_with (fail)
 go_ret
 exact⟨by rfl,rfl⟩
theorem back_any (T:List Nat) (d wb:Nat) (w:World) (h:Wi w wb T) (h1:1≤d) (hd:d≤T.length):Calls Tryz.prog 138 #[.pointer (some ⟨wb,0,none⟩),.int .i64 (d:Nat)] w fun e w'=>e= .returned (.int .u8 (T.getD (T.length-d) 0:Nat))∧Below w.heap.size w w':=by
 have k0:=h.all.1
 obtain⟨rg,a1,a2,a3,a4⟩:=h
 obtain⟨n,hn⟩: ∃z,T.length=z:=⟨_,rfl⟩
 obtain⟨x,hx⟩: ∃x,T[n-d]? =some x:=⟨_,List.getElem?_eq_getElem (by omega)⟩
 have kx:=a4.own.1 (n-d) (.int .u8 (x:Nat)) (by rw[List.getElem?_append_left (by rw[bC_len];omega)];exact bC_get (a3 _ _ hx))
 have hg:T.getD (n-d) 0=x:=by rw[List.getD_eq_getElem?_getD,hx];rfl
 rw[hn] at k0 hd ⊢
 rw[hg]
 obtain⟨m,hm⟩: ∃z,n-d=z:=⟨_,rfl⟩
 rw[hm] at kx
 have q1:IntKind.i64.wrap ((n:Int)-(d:Int))=((m:Nat):Int):=by rw[IntWalk.i64_in _ (by omega)];omega
 have t1:((m:Nat):Int).tmod 32768=((m:Nat):Int):=by rw[Int.tmod_eq_emod_of_nonneg (by omega)];omega
 have hmi:(m:Int)<32768:=by omega
 clear a1 a2 a3 a4 hx hg hm hn
 go_enter Tryz.func138,Tryz.ntmps138
 go_upto_region 1 with (fail)
 go_quiet (fail)
 go_wp2_with (fail)
 go_ret
 exact⟨by rfl,below_drewN (Below.refl _ _) _⟩
set_option maxHeartbeats 2000000 in
theorem put1_any (T:List Nat) (c wb:Nat) (w:World) (h:Wi w wb T) (hl:T.length<32768):Calls Tryz.prog 139 #[.pointer (some ⟨wb,0,none⟩),.int .u8 (c:Nat)] w fun e w'=>e= .returned (.tuple #[])∧Wi w' wb (T++[c])∧Fr [wb] w w':=by
 have k0:=h.all.1
 have f0:=h.all.2
 obtain⟨rg,a1,a2,a3,a4⟩:=h
 obtain⟨n,hn⟩: ∃z,T.length=z:=⟨_,rfl⟩
 obtain⟨x,hx⟩: ∃x,rg[n]? =some x:=⟨_,List.getElem?_eq_getElem (by omega)⟩
 have kx:=a4.own.1 n (.int .u8 (x:Nat)) (by rw[List.getElem?_append_left (by rw[bC_len];omega)];exact bC_get hx)
 have fx:=a4.own.2 n
 have HBK:=Lib.hid a4
 rw[hn] at k0 hl
 have t1:((n:Nat):Int).tmod 32768=((n:Nat):Int):=by rw[Int.tmod_eq_emod_of_nonneg (by omega)];omega
 have hmi:(n:Int)<32768:=by omega
 have q1:IntKind.i64.wrap ((n:Int)+1)=((n+1:Nat):Int):=by rw[IntWalk.i64_in _ (by omega)];omega
 obtain⟨w5,hw5⟩: ∃z:World,z=w.setCell ⟨wb,n,none⟩ (.int .u8 (c:Nat)):=⟨_,rfl⟩
 have HB5:Hid (Bk w5 wb 108 (bC (rg.set n c)++[.int .i64 (n:Nat)])):=Lib.hid (by
  rw[hw5]
  have:=HBK.out.set n (.int .u8 (c:Nat))
  rw[List.set_append_left _ _ (by rw[bC_len];omega),bC_set,hn] at this
  exact this)
 have HF5:Hid (Fr [wb] w w5):=Lib.hid (by rw[hw5];exact (Fr.refl _ w).setCell (p:=⟨wb,n,none⟩) (.inl (by simp)) _)
 clear a4 hx
 go_enter Tryz.func139,Tryz.ntmps139
 go_upto_region 0 with (fail)
 go_region
 all_goals
  rw[←hw5]
  have HB6:Hid (Bk w5.drew wb 108 (bC (rg.set n c)++[.int .i64 (n:Nat)])):=HB5
  have HF6:Hid (Fr [wb] w w5.drew):=Lib.hid HF5.out.drew
  clear HB5 HF5 hw5 k0 f0 kx fx
  generalize w5.drew=w6 at*
  have k0:=HB6.out.own.1 32768 (.int .i64 (n:Nat)) (by rw[List.getElem?_append_right (by rw[bC_len,List.length_set];omega),bC_len,List.length_set,a1];rfl)
  have f0:=HB6.out.own.2 32768
  go_wp2_with (fail)
  go_end0
  refine⟨by rfl,⟨rg.set n c,by rw[List.length_set];exact a1,by rw[List.length_append,hn];exact hl,fun j x hj=> ?_,?_⟩,HF6.out.setCell (p:=⟨wb,32768,none⟩) (.inl (by simp)) _⟩
  ·by_cases e:j=n
   ·subst e
    rw[List.getElem?_append_right (by omega),hn,Nat.sub_self] at hj
    rw[List.getElem?_set_self (by omega)]
    exact hj
   ·rw[List.getElem?_set_ne (fun h=>e h.symm)]
    refine a3 j x ?_
    have h1:=(List.getElem?_eq_some_iff.1 hj).1
    rw[List.length_append,List.length_singleton,hn] at h1
    rw[List.getElem?_append_left (by omega)] at hj
    exact hj
  ·have:=HB6.out.set 32768 (.int .i64 ((n+1:Nat):Int))
   rw[List.set_append_right _ _ (by rw[bC_len,List.length_set];omega),bC_len,List.length_set,a1] at this
   rw[List.length_append,hn]
   exact this
theorem spl_eq {n:Nat} {rg l:List Nat} (v:Value) (a1:rg.length=32768) (hT:n+l.length≤32768):splice (bC rg++[v]) n (bC l)=bC (splice rg n l)++[v]∧(splice rg n l).length=32768:=by
 refine⟨?_,by rw[length_splice _ _ _ (by omega)];exact a1⟩
 unfold splice
 rw[List.take_append_of_le_length (by rw[bC_len];omega),List.drop_append_of_le_length (by rw[bC_len,bC_len];omega),bC_take,bC_drop,bC_app,bC_app,bC_len]
 simp only[List.append_assoc]
theorem wi_splice {w:World} {wb n m:Nat} {T rg l:List Nat} (hn:T.length=n) (hm:m=l.length) (hT:n+m≤32768) (a1:rg.length=32768) (a3: ∀j x:Nat,T[j]? =some x→rg[j]? =some x) (h:Bk w wb 108 ((splice (bC rg++[.int .i64 (n:Nat)]) n (bC l)).set 32768 (.int .i64 ((n+m:Nat):Int)))):Wi w wb (T++l):=by
 obtain⟨e1,e2⟩:=spl_eq (n:=n) (l:=l) (Value.int .i64 (n:Nat)) a1 (by omega)
 refine⟨splice rg n l,e2,by rw[List.length_append];omega,fun j x hj=> ?_,?_⟩
 ·unfold splice
  by_cases h1:j<n
  ·rw[List.getElem?_append_left (by omega)] at hj
   rw[List.getElem?_append_left (by rw[List.length_take];omega),List.getElem?_take,if_pos h1]
   exact a3 j x hj
  ·rw[List.getElem?_append_right (by omega),hn] at hj
   have h2:=(List.getElem?_eq_some_iff.1 hj).1
   rw[List.getElem?_append_right (by rw[List.length_take];omega),List.length_take,Nat.min_eq_left (by omega),List.getElem?_append_left h2]
   exact hj
 ·rw[e1,List.set_append_right _ _ (by rw[bC_len,e2];exact Nat.le_refl _),bC_len,e2] at h
  rw[List.length_append,hn,←hm]
  exact h
def lenOf:Value→Nat
 | .slice _ n _=>n
 |_=>0
set_option maxHeartbeats 4000000 in
theorem putw_any (T l:List Nat) (m wb:Nat) (v:Value) (w:World) (h:Wi w wb T) (hsl: ∀W,Fr [wb] w W→Sl W W.heap.size 1 v m (bC l)) (hm:m=l.length) (hT:T.length+m≤32768):Calls Tryz.prog 134 #[.pointer (some ⟨wb,0,none⟩),v] w fun e w'=>e= .returned (.tuple #[])∧Wi w' wb (T++l)∧Fr [wb] w w':=by
 obtain⟨a,cap,rfl,hcap⟩:=(hsl w (Fr.refl _ _)).form
 obtain⟨n,hn⟩: ∃z,T.length=z:=⟨_,rfl⟩
 have HSL:=Lib.hid hsl
 have HW:=Lib.hid h
 have HN:=Lib.hid hn
 have HM:=Lib.hid hm
 rw[hn] at hT
 have q0:IntKind.i64.wrap ((m:Int)-32768)=(m:Int)-32768:=IntWalk.i64_in _ (by omega)
 have d0:decide ((0:Int)<(m:Int)-32768)=false:=decide_eq_false (by omega)
 have d0':decide ((32768:Int)<(m:Int))=false:=decide_eq_false (by omega)
 have d0'':decide (32768<m)=false:=decide_eq_false (by omega)
 clear h hsl hn hm
 go_enter Tryz.func134,Tryz.ntmps134
 go_wp2_with (fail)
 go_loopw [1] (fun u wr=>(u= .slice a m cap∧Hid (Wi wr wb T)∧Hid (Fr [wb] w wr))∨ ∃a' c',u= .slice a' 0 c'∧Hid (Wi wr wb (T++l))∧Hid (Fr [wb] w wr)) (fun u _=>lenOf u)
 case atStart=>exact .inl ⟨rfl,HW,Lib.hid (Fr.refl _ _)⟩
 case round=>
  clear HW
  rcases hrel with ⟨rfl,HW,HF⟩|⟨a',c',rfl,HW,HF⟩
  ·obtain⟨wo,rfl⟩: ∃z:World,z=wr:=⟨_,rfl⟩
   by_cases hm0:m=0
   ·have d1:decide (0<m)=false:=decide_eq_false (by omega)
    have d1':decide ((0:Int)<(m:Int))=false:=decide_eq_false (by omega)
    go_wp2_with (fail)
    go_end0
    have hl0:l=[]:=List.eq_nil_of_length_eq_zero (by have:=HM.out;omega)
    exact⟨by rfl,by rw[hl0,List.append_nil];exact HW.out,HF.out⟩
   ·have d1:decide (0<m)=true:=decide_eq_true (by omega)
    have d1':decide ((0:Int)<(m:Int))=true:=decide_eq_true (by omega)
    obtain⟨b,off,rfl,hc⟩:=sl_cells (HSL.out wo HF.out) (by omega)
    have k0:=HW.out.all.1
    rw[HN.out] at k0
    obtain⟨rg,a1,a2,a3,a4⟩:=HW.out
    rw[HN.out] at a4
    obtain⟨CS,hCS⟩: ∃z,bC rg++[Value.int .i64 (n:Nat)]=z:=⟨_,rfl⟩
    rw[hCS] at a4
    have HBLK:Hid (wo.heap[wb]? =some (.cells CS.toArray 108 (0,0))):=Lib.hid a4
    have t1:((n:Nat):Int).tmod 32768=((n:Nat):Int):=by rw[Int.tmod_eq_emod_of_nonneg (by omega)];omega
    have q1:IntKind.i64.wrap ((n:Int)+(m:Int))=((n+m:Nat):Int):=by rw[IntWalk.i64_in _ (by omega)];omega
    have HLEN:(bC l).length=m:=by rw[bC_len];exact HM.out.symm
    have HMIN:Hid ((bC l).length=Nat.min m (32768-n)):=Lib.hid (by rw[HLEN];show m=min m (32768-n);omega)
    have HPOS:Hid (0<(bC l).length→(some ⟨wb,n,none⟩:Option Addr)=some ⟨wb,n,none⟩∧ ∃ad,(some ⟨b,off,none⟩:Option Addr)=some ad∧ ∀j v,(bC l)[j]? =some v→wo.cell? (Addr.add ad j)=some v):=Lib.hid (fun _=>⟨rfl,⟨b,off,none⟩,rfl,fun j v hj=>by rw[add_plain];exact hc j v hj⟩)
    have HFIT:Hid (n+(bC l).length≤CS.length):=Lib.hid (by rw[←hCS,List.length_append,bC_len,bC_len,←HM.out,a1];simp;omega)
    have hni:(n:Int)<32768:=by omega
    have hni2:(n:Int)≤32768:=by omega
    have hni3:n≤32768:=by omega
    have hni4: ¬(32768=n):=by omega
    have HCS:=Lib.hid hCS
    clear a4 hc hCS
    go_upto_region 5 with (fail)
    go_region_law (first
     |(refine step_copy_fr rfl (.tmp 33) (.tmp 34) 23 23 rfl 5 Tryz.underlying23 (by kernel_rfl) (some ⟨wb,n,none⟩) (some ⟨b,off,none⟩) (32768-n) (32768-n) m cap rfl rfl wb n CS 108 HBLK.out (bC l) HMIN.out HPOS.out HFIT.out (bC_one _) ?_
       intro w3 hg3 hf3
       have HG3:Hid (Bk w3 wb 108 (splice CS n (bC l))):=hg3
       have HF3:=Lib.hid (HF.out.drew.trans hf3 (fun x hx _=>hx))
       clear hg3 hf3))
    all_goals
     clear k0
     have hs5:=spl_eq (n:=n) (l:=l) (Value.int .i64 (n:Nat)) a1 (by rw[←HM.out];exact hT)
     rw[HCS.out] at hs5
     have k0:=HG3.out.own.1 32768 (.int .i64 (n:Nat)) (by rw[hs5.1,List.getElem?_append_right (by rw[bC_len,hs5.2];exact Nat.le_refl _),bC_len,hs5.2];rfl)
     have f0:=HG3.out.own.2 32768
     clear hs5
     by_cases hcm:cap=m
     ·subst hcm
      go_wp2_with (fail)
      go_roundw
      case rel=>exact .inr ⟨_,_,rfl,Lib.hid (wi_splice HN.out HM.out hT a1 a3 (by rw[HCS.out];exact HG3.out.set 32768 _)),Lib.hid (HF3.out.setCell (p:=⟨wb,32768,none⟩) (.inl (by simp)) _)⟩
      case measure=>simp[lenOf]<;>omega
     ·go_wp2_with (fail)
      go_roundw
      case rel=>exact .inr ⟨_,_,rfl,Lib.hid (wi_splice HN.out HM.out hT a1 a3 (by rw[HCS.out];exact HG3.out.set 32768 _)),Lib.hid (HF3.out.setCell (p:=⟨wb,32768,none⟩) (.inl (by simp)) _)⟩
      case measure=>simp[lenOf]<;>omega
  ·go_wp2_with (fail)
   go_end0
   exact⟨by rfl,HW.out,HF.out⟩
theorem cp_add (d:Nat): ∀(a b:Nat) (k:List Nat),Tk.cp k d (a+b)=Tk.cp (Tk.cp k d a) d b
 |0,b,k=>by rw[Nat.zero_add];rfl
 |a+1,b,k=>by
  rw[show a+1+b=(a+b)+1 by omega]
  show Tk.cp (k++[k.getD (k.length-d) 0]) d (a+b)=Tk.cp (Tk.cp (k++[k.getD (k.length-d) 0]) d a) d b
  exact cp_add d a b _
theorem cp_snoc (k:List Nat) (d n:Nat):Tk.cp k d (n+1)=Tk.cp k d n++[(Tk.cp k d n).getD ((Tk.cp k d n).length-d) 0]:=by
 rw[cp_add]
 rfl
def cpf (T:List Nat) (d n j:Nat):Nat:=(Tk.cp T d n).getD (T.length+j) 0
theorem cpf_at (T:List Nat) (d:Nat) {n j:Nat} (h:j<n):(Tk.cp T d j).getD ((Tk.cp T d j).length-d) 0=cpf T d n j:=by
 have h1:=cp_add d (j+1) (n-(j+1)) T
 rw[show j+1+(n-(j+1))=n by omega] at h1
 obtain⟨e,he⟩:=Tk.cp_pre d (n-(j+1)) (Tk.cp T d (j+1))
 unfold cpf
 rw[h1,he,List.getD_eq_getElem?_getD (l:=_++e),List.getElem?_append_left (by rw[Tk.cp_len];omega),cp_snoc,List.getElem?_append_right (by rw[Tk.cp_len];omega),Tk.cp_len]
 rw[show T.length+j-(T.length+j)=0 by omega]
 rfl
theorem cpf_all (T:List Nat) (d n:Nat):fil (cpf T d n) n n=(Tk.cp T d n).drop T.length:=by
 refine List.ext_getElem? fun k=> ?_
 by_cases hk:k<n
 ·rw[fil_get _ hk,if_pos hk,List.getElem?_drop]
  unfold cpf
  rw[List.getD_eq_getElem?_getD,List.getElem?_eq_getElem (by rw[Tk.cp_len];omega)]
  rfl
 ·rw[List.getElem?_eq_none (by rw[fil_len];omega),List.getElem?_eq_none (by rw[List.length_drop,Tk.cp_len];omega)]
set_option maxHeartbeats 4000000 in
theorem copy_any (T:List Nat) (d n wb:Nat) (w:World) (h:Wi w wb T) (h1:1≤d) (hd:d≤T.length) (hn:n≤1000) (hT:T.length+n≤32768):Calls Tryz.prog 106 #[.pointer (some ⟨wb,0,none⟩),.int .i64 (d:Nat),.int .i64 (n:Nat)] w fun e w'=> ∃v,e= .returned (.tuple #[v,.int .i64 0])∧Row w.heap.size 5 1 w' v n (bC ((Tk.cp T d n).drop T.length))∧Wi w' wb (Tk.cp T d n)∧Fr [wb] w w':=by
 have HLE:=Lib.hid (wlen_any T wb w h)
 have HW:=Lib.hid h
 have hlt:=h.lt
 have HTL:=Lib.hid hT
 have d1:decide ((n:Int)<0)=false:=decide_eq_false (by omega)
 have d2:decide ((1048576:Int)<(n:Int))=false:=decide_eq_false (by omega)
 have d2':decide (1048576<n)=false:=decide_eq_false (by omega)
 have d3:decide ((d:Int)<1)=false:=decide_eq_false (by omega)
 have d3':decide (d<1)=false:=decide_eq_false (by omega)
 have d3'':(d==0)=false:=by simp;omega
 have d4:decide ((T.length:Int)<(d:Int))=false:=decide_eq_false (by omega)
 have d4':decide (T.length<d)=false:=decide_eq_false (by omega)
 have hmk:=hmkB n w (by omega)
 obtain⟨Z,hZ⟩: ∃z,bC (List.replicate n 0)=z:=⟨_,rfl⟩
 rw[hZ] at hmk
 obtain⟨wa,hwa⟩: ∃z:World,z=w.alloc (.cells Z.toArray 5):=⟨_,rfl⟩
 have HR:Hid (Row w.heap.size 5 1 wa (.slice (some ⟨w.heap.size,0,none⟩) n n) n (bC (fil (cpf T d n) n 0))):=Lib.hid (by
  rw[hwa,fil_zero,←hZ]
  exact Row.lit w _ (Nat.le_refl _) (by omega) (by rw[bC_len];simp))
 have HWA:Hid (Wi wa wb (Tk.cp T d 0)):=Lib.hid (by rw[hwa];exact h.below ((Below.refl _ _).alloc (Nat.le_refl _) _))
 have HFA:Hid (Fr [wb] w wa):=Lib.hid (by rw[hwa];exact (Fr.refl _ _).alloc _)
 have hza:w.heap.size+1≤wa.heap.size:=by rw[hwa];simp
 clear h hZ
 go_enter Tryz.func106,Tryz.ntmps106
 go_wp2_with (fail)
 refine HLE.out.mono ?_
 rintro e w1 ⟨rfl,rfl⟩
 go_upto_region 6 with (fail)
 rw[←hwa]
 clear hwa hmk HW HLE d4 d4'
 obtain⟨g,hg⟩: ∃z,w1.heap.size=z:=⟨_,rfl⟩
 rw[hg] at HR hza hlt ⊢
 go_wp2_with (fail)
 go_loopw [28] (fun i wr=> ∃q:Nat,i= .int .i64 q∧q≤n∧Hid (Row g 5 1 wr (.slice (some ⟨g,0,none⟩) n n) n (bC (fil (cpf T d n) n q)))∧Hid (Wi wr wb (Tk.cp T d q))∧Hid (Fr [wb] w1 wr)∧g+1≤wr.heap.size) (fun i _=>n-(intOf i).toNat)
 case atStart=>exact⟨0,rfl,Nat.zero_le _,HR,HWA,HFA,hza⟩
 case round=>
  clear HR HWA HFA hza
  obtain⟨q,rfl,hq,HR,HW,HF,hz⟩:=hrel
  obtain⟨wo,rfl⟩: ∃z:World,z=wr:=⟨_,rfl⟩
  by_cases hqn:q<n
  ·as_aux_lemma=>
   have e1:decide (q<n)=true:=decide_eq_true hqn
   have e2:decide ((q:Int)<(n:Int))=true:=decide_eq_true (by omega)
   have q1:IntKind.i64.wrap ((q:Int)+1)=((q+1:Nat):Int):=by rw[IntWalk.i64_in _ (by omega)];omega
   have hqi:(q:Int)<(n:Int):=by omega
   have hcl:(Tk.cp T d q).length=T.length+q:=Tk.cp_len _ _ _
   have hHB:=back_any (Tk.cp T d q) d wb wo HW.out h1 (by omega)
   rw[cpf_at T d hqn] at hHB
   have HST:=Lib.hid (fil_step (cpf T d n) hqn)
   have HSN:Hid (Tk.cp T d (q+1)=Tk.cp T d q++[cpf T d n q]):=Lib.hid (by rw[cp_snoc,cpf_at T d hqn])
   obtain⟨C,hC⟩: ∃z,cpf T d n q=z:=⟨_,rfl⟩
   rw[hC] at hHB HST HSN
   have HB:=Lib.hid hHB
   clear hC hHB
   go_wp2_with (fail)
   refine HB.out.mono ?_
   rintro e w2 ⟨rfl,hb2⟩
   have HR2:=Lib.hid (HR.out.below hb2)
   have HW2:=Lib.hid (HW.out.below hb2)
   have HF2:=Lib.hid (HF.out.trans (Fr.of_below (F:=[]) hb2) (fun x hx=>by cases hx))
   have hz2:g+1≤w2.heap.size:=by have:=hb2.size;omega
   clear hb2 HB
   have kp:=sl_same HR2.out.sl (by omega) q _ (bC_get (fil_get (cpf T d n) (j:=q) hqn))
   rw[Nat.zero_add,if_neg (by omega)] at kp
   have fp:=HR2.out.frozenAt q
   go_upto_region 10 with (fail)
   have HR3:Hid (Row g 5 1 (w2.setCell ⟨g,q,none⟩ (.int .u8 (C:Nat))) (.slice (some ⟨g,0,none⟩) n n) n (bC (fil (cpf T d n) n (q+1)))):=Lib.hid (by
    rw[←HST.out,←bC_set]
    exact (World.ownsRow.stored HR2.out q (.int .u8 (C:Nat))).1)
   have HF3:=Lib.hid (HF2.out.setCell (p:=⟨g,q,none⟩) (.inr (by rw[hg];exact Nat.le_refl _)) (.int .u8 (C:Nat)))
   have HW3:=Lib.hid (HW2.out.fr ((Fr.refl [g] w2).setCell (p:=⟨g,q,none⟩) (.inl (by simp)) (.int .u8 (C:Nat))) (by simp;omega))
   have hz3:g+1≤(w2.setCell ⟨g,q,none⟩ (.int .u8 (C:Nat))).heap.size:=by simpa using hz2
   clear kp fp HR2 HW2 HF2
   generalize w2.setCell ⟨g,q,none⟩ (.int .u8 (C:Nat))=w3 at*
   have kp:=sl_same HR3.out.sl (by omega) q (.int .u8 (C:Nat)) (by
    rw[←HST.out,←bC_set,List.getElem?_set_self (by rw[bC_len,fil_len];omega)])
   rw[Nat.zero_add] at kp
   have HP:=Lib.hid (put1_any (Tk.cp T d q) C wb w3 HW3.out (by have:=HTL.out;omega))
   go_wp2_with (fail)
   refine HP.out.mono ?_
   rintro e w4 ⟨rfl,hw4,hf4⟩
   have HW4:Hid (Wi w4 wb (Tk.cp T d (q+1))):=Lib.hid (by rw[HSN.out];exact hw4)
   have HF4:=Lib.hid (HF3.out.trans hf4 (fun x hx _=>hx))
   have HR4:=Lib.hid (HR3.out.fr hf4 (fun k hk=>by rw[mem_obk] at hk;simp[Value.ownBlock] at hk;subst hk;simp;omega))
   have hz4:g+1≤w4.heap.size:=by have:=hf4.size;omega
   clear hw4 hf4 kp HP
   go_wp2_with (fail)
   go_roundw
   case rel=>exact⟨q+1,rfl,hqn,HR4,HW4,HF4,hz4⟩
   case measure=>simp[intOf]<;>omega
  ·have e1:decide (q<n)=false:=decide_eq_false hqn
   have e2:decide ((q:Int)<(n:Int))=false:=decide_eq_false (by omega)
   obtain rfl:q=n:=by omega
   rw[cpf_all] at HR
   go_wp2_with (fail)
   go_ret2
   exact⟨_,rfl,by rw[hg];exact HR.out,HW.out,HF.out⟩
end Go.Proofs.YtmdgeoalamancaaGreatDoor
