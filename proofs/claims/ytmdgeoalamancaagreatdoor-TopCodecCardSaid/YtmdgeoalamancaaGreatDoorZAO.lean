/- Tokens in memory. Stored blocks are written. Earlier places of three bytes: the finder. The finder: three bytes, the nearest place, how many are the same. -/
import Derived.Test.YtmdgeoalamancaaGreatDoorZAN
import Derived.Maps.Own
import Derived.Maps.OwnSet
import Derived.Maps.Views
import Derived.Maps.Keyed
import Derived.Laws.Cover1
set_option maxRecDepth 100000
set_option linter.unusedVariables false
set_option linter.unusedSimpArgs false
namespace Go.Proofs.YtmdgeoalamancaaGreatDoor
open Go.RowKit
open Bt Can Mc
def tkc (t:Tk.T):List Value:=[.int .u8 (t.c:Nat),.int .i64 (t.l:Nat),.int .i64 (t.d:Nat)]
def kC (ts:List Tk.T):List Value:=ts.flatMap tkc
theorem kC_cons (t:Tk.T) (ts:List Tk.T):kC (t::ts)= .int .u8 (t.c:Nat):: .int .i64 (t.l:Nat):: .int .i64 (t.d:Nat)::kC ts:=by unfold kC;rw[List.flatMap_cons];rfl
theorem kC_app (a b:List Tk.T):kC (a++b)=kC a++kC b:=by unfold kC;rw[List.flatMap_append]
theorem kC_get: ∀(ts:List Tk.T) (j:Nat) (t:Tk.T),ts[j]? =some t→(kC ts)[j*3]? =some (.int .u8 (t.c:Nat))∧(kC ts)[j*3+1]? =some (.int .i64 (t.l:Nat))∧(kC ts)[j*3+2]? =some (.int .i64 (t.d:Nat))
 | [],_,_,h=>by simp at h
 |q::rs,0,r,h=>by
  simp only[List.getElem?_cons_zero,Option.some.injEq] at h
  subst h
  rw[kC_cons]
  exact⟨rfl,rfl,rfl⟩
 |q::rs,j+1,r,h=>by
  have:=kC_get rs j r (by simpa using h)
  rw[kC_cons]
  refine⟨?_,?_,?_⟩
  ·rw[show (j+1)*3=j*3+3 by omega];exact this.1
  ·rw[show (j+1)*3+1=j*3+1+3 by omega];exact this.2.1
  ·rw[show (j+1)*3+2=j*3+2+3 by omega];exact this.2.2
theorem kC_one (ts:List Tk.T): ∀u∈kC ts,u.oneCell'=true:=by
 intro u hu
 unfold kC at hu
 obtain⟨t,_,ht⟩:=List.mem_flatMap.1 hu
 simp[tkc] at ht
 rcases ht with rfl|rfl|rfl<;>rfl
set_option maxHeartbeats 1000000 in
theorem right_any (t:Tk.T) (ho:Tk.Ok t) (w:World):Calls Tryz.prog 78 #[.agg #[.int .u8 (t.c:Nat),.int .i64 (t.l:Nat),.int .i64 (t.d:Nat)]] w fun e w'=>e= .returned (.bool true)∧Below w.heap.size w w':=by
 obtain⟨c,l,d⟩:=t
 have HB:=Lib.hid ((Below.refl w.heap.size w).alloc (Nat.le_refl _) (.cells #[.int .u8 (c:Nat),.int .i64 (l:Nat),.int .i64 (d:Nat)] 162))
 rcases ho with ⟨h1,h2,_⟩|⟨h1,h2,h3,h4,h5⟩
 ·have h1:l=0:=h1
  have h2:d=0:=h2
  subst h1 h2
  go_enter Tryz.func78,Tryz.ntmps78
  go_wp2_with (fail)
  go_ret
  exact⟨by rfl,HB.out⟩
 ·have h1:c=0:=h1
  have h2:3≤l:=h2
  have h3:l≤258:=h3
  have h4:1≤d:=h4
  have h5:d≤32768:=h5
  subst h1
  have e1:((l:Int)==0)=false:=by rw[beq_eq_false_iff_ne];omega
  have e1':(l==0)=false:=by rw[beq_eq_false_iff_ne];omega
  have e2:decide ((3:Int)≤(l:Int))=true:=decide_eq_true (by omega)
  have e2':decide (3≤l)=true:=decide_eq_true h2
  have e3:decide ((l:Int)≤258)=true:=decide_eq_true (by omega)
  have e3':decide (l≤258)=true:=decide_eq_true h3
  have e4:decide ((1:Int)≤(d:Int))=true:=decide_eq_true (by omega)
  have e4':decide (1≤d)=true:=decide_eq_true h4
  have e4'':decide (0<d)=true:=decide_eq_true (by omega)
  have e5:decide ((d:Int)≤32768)=true:=decide_eq_true (by omega)
  have e5':decide (d≤32768)=true:=decide_eq_true h5
  go_enter Tryz.func78,Tryz.ntmps78
  go_wp2_with (fail)
  go_ret
  exact⟨by rfl,HB.out⟩
theorem tsize_any (t:Tk.T) (ho:Tk.Ok t) (w:World):Calls Tryz.prog 81 #[.agg #[.int .u8 (t.c:Nat),.int .i64 (t.l:Nat),.int .i64 (t.d:Nat)]] w fun e w'=>e= .returned (.int .i64 (Tk.size t:Nat))∧Below w.heap.size w w':=by
 have HR:=Lib.hid (fun W=>right_any t ho W)
 have HS:Hid ((if t.l=0 then 1 else t.l)=Tk.size t):=Lib.hid rfl
 obtain⟨wa,hwa⟩: ∃z:World,z=w.alloc (.cells #[.int .u8 (t.c:Nat),.int .i64 (t.l:Nat),.int .i64 (t.d:Nat)] 162):=⟨_,rfl⟩
 have HB:Hid (Below w.heap.size w wa):=Lib.hid (by rw[hwa];exact (Below.refl _ _).alloc (Nat.le_refl _) _)
 have HO:Hid (Own wa w.heap.size [.int .u8 (t.c:Nat),.int .i64 (t.l:Nat),.int .i64 (t.d:Nat)]):=Lib.hid (by rw[hwa];exact Own.new_at w _ _ _ rfl)
 have hza:w.heap.size<wa.heap.size:=by rw[hwa];simp
 obtain⟨c,l,d⟩:=t
 simp only at HR HS HO hwa
 clear ho
 go_enter Tryz.func81,Tryz.ntmps81
 go_upto_region 1 with (fail)
 rw[←hwa]
 clear hwa
 obtain⟨g,hg⟩: ∃z,w.heap.size=z:=⟨_,rfl⟩
 rw[hg] at HO hza ⊢
 have k0:=HO.out.1 0 _ rfl
 have k1:=HO.out.1 1 _ rfl
 have k2:=HO.out.1 2 _ rfl
 go_wp2_with (fail)
 refine (HR.out _).mono ?_
 rintro e w1 ⟨rfl,hb1⟩
 have HB1:=Lib.hid (HB.out.trans (hb1.mono (by omega)))
 have HO1:=Lib.hid (HO.out.below hb1 hza)
 clear hb1 k0 k1 k2 HO HB
 have k1:=HO1.out.1 1 _ rfl
 have HS2:Hid ((if (1:Int)<(l:Int) then ((l:Nat):Int) else 1)=((Tk.size ⟨c,l,d⟩:Nat):Int)):=Lib.hid (by
  rw[←HS.out]
  by_cases h:l=0
  ·rw[if_pos h,if_neg (by omega)];rfl
  ·rw[if_neg h]
   by_cases h2:l=1
   ·subst h2;rfl
   ·rw[if_pos (by omega)])
 by_cases h:1<l
 ·have h':(1:Int)<(l:Int):=by omega
  have hn': ¬((l:Int)≤1):=by omega
  go_wp2_with (fail)
  all_goals first
   |omega
   |(go_ret
     exact⟨by rw[←HS2.out,if_pos h'];rfl,HB1.out⟩)
 ·have h': ¬(1:Int)<(l:Int):=by omega
  have hn':(l:Int)≤1:=by omega
  go_wp2_with (fail)
  all_goals first
   |omega
   |(go_ret
     exact⟨by rw[←HS2.out,if_neg (by omega)];rfl,HB1.out⟩)
def sizN' (ts:List Tk.T):Nat:=(ts.map Tk.size).sum
theorem sizN'_le: ∀(ts:List Tk.T),(∀t∈ts,Tk.Ok t)→sizN' ts≤258*ts.length
 | [],_=>Nat.le_refl _
 |t::ts,h=>by
  have h1:=sizN'_le ts (fun x hx=>h x (by simp[hx]))
  have h2:Tk.size t≤258:=by
   unfold Tk.size
   rcases h t (by simp) with ⟨a,_⟩|⟨_,a,b,_⟩
   ·rw[if_pos a];omega
   ·split<;>omega
  unfold sizN' at h1 ⊢
  rw[List.map_cons,List.sum_cons,List.length_cons]
  omega
theorem sizN'_snoc (ts:List Tk.T) {j:Nat} {t:Tk.T} (h:ts[j]? =some t):sizN' (ts.take (j+1))=sizN' (ts.take j)+Tk.size t:=by
 unfold sizN'
 rw[List.take_add_one,h]
 simp
theorem sl_tok {w:World} {B n cap:Nat} {a:Option Addr} {ts:List Tk.T} (h:Sl w B 3 (.slice a n cap) n (kC ts)) (hn:n=ts.length) {j:Nat} {t:Tk.T} (hj:ts[j]? =some t): ∃b off,a=some ⟨b,off,none⟩∧w.cell? ⟨b,off+j*3,none⟩=some (.int .u8 (t.c:Nat))∧w.cell? ⟨b,off+j*3+1,none⟩=some (.int .i64 (t.l:Nat))∧w.cell? ⟨b,off+j*3+2,none⟩=some (.int .i64 (t.d:Nat)):=by
 have hlt:=(List.getElem?_eq_some_iff.1 hj).1
 obtain⟨b,off,cap',hv,_,_,hc⟩:=h.pos (by omega)
 injection hv with hv
 obtain⟨g1,g2,g3⟩:=kC_get ts j t hj
 exact⟨b,off,hv,hc _ _ g1,by have:=hc _ _ g2;rwa [←Nat.add_assoc] at this,by have:=hc _ _ g3;rwa [←Nat.add_assoc] at this⟩
set_option maxHeartbeats 4000000 in
theorem sizes_any (ts:List Tk.T) (n B:Nat) (v:Value) (w:World) (h:Sl w B 3 v n (kC ts)) (hB:B≤w.heap.size) (hn:n=ts.length) (hl:n≤1000000) (ho: ∀t∈ts,Tk.Ok t):Calls Tryz.prog 48 #[v] w fun e w'=>e= .returned (.int .i64 (sizN' ts:Nat))∧Below w.heap.size w w':=by
 obtain⟨a,cap,rfl,hcap⟩:=h.form
 have HS:=Lib.hid (fun (W:World) (hW:Below w.heap.size w W)=>h.below (hW.mono hB))
 have HN:=Lib.hid hn
 have HO:=Lib.hid ho
 have HLE:=Lib.hid (fun j=>sizN'_le (ts.take j) (fun t ht=>ho t (List.mem_of_mem_take ht)))
 clear h hn ho
 go_enter Tryz.func48,Tryz.ntmps48
 go_wp2_with (fail)
 go_loopw [3,8] (fun s i wr=> ∃j:Nat,i= .int .i64 j∧j≤n∧s= .int .i64 (sizN' (ts.take j):Nat)∧Hid (Below w.heap.size w wr)) (fun _ i _=>n-(intOf i).toNat)
 case atStart=>exact⟨0,rfl,Nat.zero_le _,rfl,Lib.hid (Below.refl _ _)⟩
 case round=>
  obtain⟨j,rfl,hj,rfl,HB⟩:=hrel
  obtain⟨wo,rfl⟩: ∃z:World,z=wr:=⟨_,rfl⟩
  by_cases hlt:j<n
  ·as_aux_lemma=>
   have d1:decide (j<n)=true:=decide_eq_true hlt
   have d2:decide ((j:Int)<(n:Int))=true:=decide_eq_true (by omega)
   have q1:IntKind.i64.wrap ((j:Int)+1)=((j+1:Nat):Int):=by rw[IntWalk.i64_in _ (by omega)];omega
   have hji:(j:Int)<(n:Int):=by omega
   obtain⟨t,ht⟩: ∃t,ts[j]? =some t:=⟨_,List.getElem?_eq_getElem (by have:=HN.out;omega)⟩
   obtain⟨b,off,rfl,k0,k1,k2⟩:=sl_tok (HS.out wo HB.out) HN.out ht
   have hle1:=HLE.out j
   have hle2:=HLE.out (j+1)
   rw[List.length_take] at hle1 hle2
   have hsn:=sizN'_snoc ts ht
   obtain⟨S1,hS1⟩: ∃z,sizN' (ts.take j)=z:=⟨_,rfl⟩
   obtain⟨S2,hS2⟩: ∃z,sizN' (ts.take (j+1))=z:=⟨_,rfl⟩
   obtain⟨Z,hZ⟩: ∃z,Tk.size t=z:=⟨_,rfl⟩
   have hTS:=fun W=>tsize_any t (HO.out t (List.mem_of_getElem? ht)) W
   rw[hZ] at hTS
   have HTS:=Lib.hid hTS
   rw[hS1,hS2,hZ] at hsn
   rw[hS1] at hle1 ⊢
   rw[hS2] at hle2
   have q2:IntKind.i64.wrap ((S1:Int)+(Z:Int))=((S2:Nat):Int):=by rw[IntWalk.i64_in _ (by omega)];omega
   have HS2:=Lib.hid hS2
   have hA:=(Below.refl wo.heap.size wo).alloc (Nat.le_refl _) (.cells #[.int .u8 (t.c:Nat),.int .i64 (t.l:Nat),.int .i64 (t.d:Nat)] 162)
   have HBA:=Lib.hid (HB.out.trans (hA.mono HB.out.size))
   have hzA:w.heap.size≤(wo.alloc (.cells #[.int .u8 (t.c:Nat),.int .i64 (t.l:Nat),.int .i64 (t.d:Nat)] 162)).heap.size:=HBA.out.size
   have HZA:=Lib.hid hzA
   clear hS1 hS2 hZ hsn hle1 hle2 hTS hA hzA ht
   go_wp2_with (fail)
   refine (HTS.out _).mono ?_
   rintro e w2 ⟨rfl,hb2⟩
   have HB2:=Lib.hid (HBA.out.trans (hb2.mono HZA.out))
   clear hb2 k0 k1 k2 HBA HZA
   go_wp2_with (fail)
   go_roundw
   case rel=>exact⟨j+1,rfl,hlt,by rw[HS2.out],HB2⟩
   case measure=>simp[intOf]<;>omega
  ·have d1:decide (j<n)=false:=decide_eq_false hlt
   have d2:decide ((j:Int)<(n:Int))=false:=decide_eq_false (by omega)
   obtain rfl:j=n:=by omega
   have HX:Hid (sizN' (ts.take j)=sizN' ts):=Lib.hid (by rw[HN.out,List.take_length])
   rw[HX.out]
   go_wp2_with (fail)
   go_ret
   exact⟨by rfl,HB.out⟩
set_option maxHeartbeats 4000000 in
theorem rights_any (ts:List Tk.T) (n B:Nat) (v:Value) (w:World) (h:Sl w B 3 v n (kC ts)) (hB:B≤w.heap.size) (hn:n=ts.length) (hl:n≤1000000) (ho: ∀t∈ts,Tk.Ok t):Calls Tryz.prog 125 #[v] w fun e w'=>e= .returned (.bool true)∧Below w.heap.size w w':=by
 obtain⟨a,cap,rfl,hcap⟩:=h.form
 have HS:=Lib.hid (fun (W:World) (hW:Below w.heap.size w W)=>h.below (hW.mono hB))
 have HN:=Lib.hid hn
 have HO:=Lib.hid ho
 clear h hn ho
 go_enter Tryz.func125,Tryz.ntmps125
 go_wp2_with (fail)
 go_loopw [7] (fun i wr=> ∃j:Nat,i= .int .i64 j∧j≤n∧Hid (Below w.heap.size w wr)) (fun i _=>n-(intOf i).toNat)
 case atStart=>exact⟨0,rfl,Nat.zero_le _,Lib.hid (Below.refl _ _)⟩
 case round=>
  obtain⟨j,rfl,hj,HB⟩:=hrel
  obtain⟨wo,rfl⟩: ∃z:World,z=wr:=⟨_,rfl⟩
  by_cases hlt:j<n
  ·as_aux_lemma=>
   have d1:decide (j<n)=true:=decide_eq_true hlt
   have d2:decide ((j:Int)<(n:Int))=true:=decide_eq_true (by omega)
   have q1:IntKind.i64.wrap ((j:Int)+1)=((j+1:Nat):Int):=by rw[IntWalk.i64_in _ (by omega)];omega
   have hji:(j:Int)<(n:Int):=by omega
   obtain⟨t,ht⟩: ∃t,ts[j]? =some t:=⟨_,List.getElem?_eq_getElem (by have:=HN.out;omega)⟩
   obtain⟨b,off,rfl,k0,k1,k2⟩:=sl_tok (HS.out wo HB.out) HN.out ht
   have HTS:=Lib.hid (fun W=>right_any t (HO.out t (List.mem_of_getElem? ht)) W)
   have hA:=(Below.refl wo.heap.size wo).alloc (Nat.le_refl _) (.cells #[.int .u8 (t.c:Nat),.int .i64 (t.l:Nat),.int .i64 (t.d:Nat)] 162)
   have HBA:=Lib.hid (HB.out.trans (hA.mono HB.out.size))
   have hzA:w.heap.size≤(wo.alloc (.cells #[.int .u8 (t.c:Nat),.int .i64 (t.l:Nat),.int .i64 (t.d:Nat)] 162)).heap.size:=HBA.out.size
   have HZA:=Lib.hid hzA
   clear hA hzA ht
   go_wp2_with (fail)
   refine (HTS.out _).mono ?_
   rintro e w2 ⟨rfl,hb2⟩
   have HB2:=Lib.hid (HBA.out.trans (hb2.mono HZA.out))
   clear hb2 k0 k1 k2 HBA HZA
   go_wp2_with (fail)
   go_roundw
   case rel=>exact⟨j+1,rfl,hlt,HB2⟩
   case measure=>simp[intOf]<;>omega
  ·have d1:decide (j<n)=false:=decide_eq_false hlt
   have d2:decide ((j:Int)<(n:Int))=false:=decide_eq_false (by omega)
   go_wp2_with (fail)
   go_ret
   exact⟨by rfl,HB.out⟩
end Go.Proofs.YtmdgeoalamancaaGreatDoor
namespace Go.Proofs.YtmdgeoalamancaaGreatDoor
open Go.RowKit
open Bt Can Mc
theorem xor16 (n:Nat) (h:n≤65535):bits .xor .u32 (n:Int) 65535=((65535-n:Nat):Int):=by
 unfold bits
 have e1:(BitVec.ofInt 32 (n:Int)^^^BitVec.ofInt 32 65535).toNat=65535-n:=by
  have h1:BitVec.ofInt 32 (n:Int)^^^BitVec.ofInt 32 65535=(BitVec.ofNat 16 n^^^BitVec.allOnes 16).setWidth 32:=by
   apply BitVec.eq_of_toNat_eq
   rw[BitVec.toNat_xor,BitVec.ofInt_natCast,BitVec.toNat_ofNat,show (BitVec.ofInt 32 65535).toNat=65535 by decide,BitVec.toNat_setWidth,BitVec.toNat_xor,BitVec.toNat_ofNat,show (BitVec.allOnes 16).toNat=65535 by decide,Nat.mod_eq_of_lt (show n<2^32 by omega),Nat.mod_eq_of_lt (show n<2^16 by omega),Nat.mod_eq_of_lt]
   have:=Nat.xor_lt_two_pow (x:=n) (y:=65535) (n:=16) (by omega) (by omega)
   omega
  rw[h1,BitVec.xor_allOnes,BitVec.toNat_setWidth,BitVec.toNat_not,BitVec.toNat_ofNat,Nat.mod_eq_of_lt (show n<2^16 by omega),Nat.mod_eq_of_lt (by omega)]
 show IntKind.u32.wrap (((BitVec.ofInt 32 (n:Int)^^^BitVec.ofInt 32 65535).toNat:Nat):Int)=_
 rw[e1,u32_wrap _ (by omega)]
theorem or16 (n k:Nat) (hn:n≤65535) (hk:k≤65535):bits .or .u32 (n:Int) ((k*65536:Nat):Int)=((n+k*65536:Nat):Int):=by
 unfold bits
 have e1:(BitVec.ofInt 32 (n:Int) |||BitVec.ofInt 32 ((k*65536:Nat):Int)).toNat=n+k*65536:=by
  rw[BitVec.toNat_or,BitVec.ofInt_natCast,BitVec.ofInt_natCast,BitVec.toNat_ofNat,BitVec.toNat_ofNat,Nat.mod_eq_of_lt (show n<2^32 by omega),Nat.mod_eq_of_lt (show k*65536<2^32 by omega),Nat.or_comm]
  have:=Nat.two_pow_add_eq_or_of_lt (i:=16) (b:=n) (by omega) k
  rw[show (2:Nat)^16=65536 by decide] at this
  rw[show k*65536=65536*k by omega,←this]
  omega
 show IntKind.u32.wrap (((BitVec.ofInt 32 (n:Int) |||BitVec.ofInt 32 ((k*65536:Nat):Int)).toNat:Nat):Int)=_
 rw[e1,u32_wrap _ (by omega)]
set_option maxHeartbeats 1000000 in
theorem putKind_any (F:List Nat) (wb k:Nat) (b:Bool) (S:List Bool) (w:World) (h:Wr F w wb S) (hk:k≤2) (hS:S.length≤1000000000):Calls Tryz.prog 50 #[.pointer (some ⟨wb,0,none⟩),.int .u32 (k:Nat),.bool b] w fun e w'=>e= .returned (.tuple #[])∧ ∃F',Wr F' w' wb (S++lsb (b2n b+2*k) 3)∧Fr F w w'∧New F F' w.heap.size:=by
 have HP:=Lib.hid (put_any F wb S (b2n b+2*k) 3 w h (by cases b<;>simp[b2n]<;>omega) (by omega) hS)
 clear h
 obtain rfl|rfl|rfl:k=0∨k=1∨k=2:=by omega
 all_goals
  have z0:bits .or .u32 0 0=0:=by decide
  have z1:bits .or .u32 1 0=1:=by decide
  have z2:bits .or .u32 0 2=2:=by decide
  have z3:bits .or .u32 1 2=3:=by decide
  have z4:bits .or .u32 0 4=4:=by decide
  have z5:bits .or .u32 1 4=5:=by decide
  cases b
  all_goals
   go_enter Tryz.func50,Tryz.ntmps50
   go_wp2_with (fail)
   refine HP.out.mono ?_
   rintro e w1 ⟨rfl,F1,h1,h2,h3⟩
   have H1:=Lib.hid (show Wr F1 w1 wb _∧Fr F w w1∧New F F1 w.heap.size from⟨h1,h2,h3⟩)
   clear h1 h2 h3 HP
   go_wp2_with (fail)
   go_end0
   exact⟨by rfl,F1,H1.out⟩
def storedB (p:Nat) (f:Bool) (l:List Nat):List Bool:=lsb (b2n f) 3++(lsb 0 (gap (p+3))++(lsb (l.length+(65535-l.length)*65536) 32++byts l))
theorem storedB_eq (S:List Bool) (f:Bool) (l:List Nat) (X:Nat) (hX:X=l.length+(65535-l.length)*65536):S++lsb (b2n f) 3++lsb 0 (gap (S.length+3))++lsb X 32++lsb 0 (gap (S++lsb (b2n f) 3++lsb 0 (gap (S.length+3))++lsb X 32).length)++byts l=S++storedB S.length f l:=by
 have h0:gap (S++lsb (b2n f) 3++lsb 0 (gap (S.length+3))++lsb X 32).length=0:=by
  rw[List.length_append,List.length_append,List.length_append,lsb_len,lsb_len,lsb_len]
  unfold gap
  omega
 rw[h0,show lsb 0 0=[] from rfl,List.append_nil]
 unfold storedB
 rw[hX]
 simp only[List.append_assoc]
theorem Wr.step {F F':List Nat} {w w' W:World} (h:Fr F w w') (hn:New F F' w.heap.size) (k:Fr F' w' W):Fr F w W:=h.trans k (fun x hx hlt=>by
 rcases hn x hx with h1|h1
 ·exact h1
 ·omega)
set_option maxHeartbeats 4000000 in
theorem stored_any (F:List Nat) (wb m:Nat) (f:Bool) (S:List Bool) (l:List Nat) (v:Value) (w:World) (h:Wr F w wb S) (hS:S.length≤800000000) (hsl: ∀W,Fr F w W→Sl W W.heap.size 1 v m (bC l)) (hm:m=l.length) (hl:m≤65535) (hb: ∀x∈l,x<256):Calls Tryz.prog 27 #[.pointer (some ⟨wb,0,none⟩),v,.bool f] w fun e w'=>e= .returned (.tuple #[])∧ ∃F',Wr F' w' wb (S++storedB S.length f l)∧Fr F w w'∧New F F' w.heap.size:=by
 obtain⟨a,cap,rfl,hcap⟩:=(hsl w (Fr.refl _ _)).form
 have HSL:=Lib.hid hsl
 have HL:=Lib.hid hm
 have HB:=Lib.hid hb
 have HK:=Lib.hid (putKind_any F wb 0 f S w h (by omega) (by omega))
 have d1:decide (65535<m)=false:=decide_eq_false (by omega)
 have d1':decide ((65535:Int)<(m:Int))=false:=decide_eq_false (by omega)
 have hnl: ¬(65535<m):=by omega
 have hml:m≤65535:=hl
 have z1:=xor16 m hl
 obtain⟨K,hK⟩: ∃z,65535-m=z:=⟨_,rfl⟩
 rw[hK] at z1
 have z2:=or16 m K hl (by omega)
 obtain⟨X,hX⟩: ∃z,m+K*65536=z:=⟨_,rfl⟩
 rw[hX] at z2
 obtain⟨K6,hK6⟩: ∃z,K*65536=z:=⟨_,rfl⟩
 rw[hK6] at z2
 have z3:IntKind.u32.wrap (m:Int)=(m:Int):=u32_wrap m (by omega)
 have z4:((K:Nat):Int)*65536%4294967296=((K6:Nat):Int):=by omega
 have z5:IntKind.u32.wrap (((K:Nat):Int)*65536)=((K6:Nat):Int):=by rw[←hK6];exact u32_wrap (K*65536) (by omega)
 have HX:Hid (X=l.length+(65535-l.length)*65536):=Lib.hid (by rw[←hX,←hK,hm])
 have hXl:X<4294967296:=by omega
 clear h hsl hm hb hK hX hK6
 go_enter Tryz.func27,Tryz.ntmps27
 go_wp2_with (fail)
 refine wp_loop_rounds 1 ?_
 rw[rounds_succ]
 cases hf:f
 all_goals
  rw[hf] at HK
  go_wp2_with (fail)
  refine HK.out.mono ?_
  rintro e w1 ⟨rfl,F1,hw1,hf1,hn1⟩
  have HW1:=Lib.hid hw1
  have HF1:=Lib.hid hf1
  have HN1:=Lib.hid hn1
  clear hw1 hf1 hn1 HK
  rw[show b2n _+2*0=b2n _ from rfl] at HW1
  have HAL:=Lib.hid (align_any F1 wb _ w1 HW1.out (by rw[List.length_append,lsb_len];omega))
  go_wp2_with (fail)
  refine HAL.out.mono ?_
  rintro e w2 ⟨rfl,F2,hw2,hf2,hn2⟩
  rw[show (S++lsb (b2n _) 3).length=S.length+3 by rw[List.length_append,lsb_len]] at hw2
  have HW2:=Lib.hid hw2
  have HF2:=Lib.hid (Wr.step HF1.out HN1.out hf2)
  have HN2:=Lib.hid (HN1.out.trans hn2 HF1.out.size)
  clear hw2 hf2 hn2 HAL HW1 HF1 HN1
  have hg8:gap (S.length+3)<8:=by unfold gap;omega
  have hp:=put_any F2 wb _ X 32 w2 HW2.out hXl (by omega) (by rw[List.length_append,List.length_append,lsb_len,lsb_len];omega)
  have HPU:=Lib.hid hp
  clear hp
  go_wp2_with (fail)
  refine HPU.out.mono ?_
  rintro e w3 ⟨rfl,F3,hw3,hf3,hn3⟩
  have HW3:=Lib.hid hw3
  have HF3:=Lib.hid (Wr.step HF2.out HN2.out hf3)
  have HN3:=Lib.hid (HN2.out.trans hn3 HF2.out.size)
  clear hw3 hf3 hn3 HPU HW2 HF2 HN2
  have HBY:=Lib.hid (bytes_any F3 wb _ l m (.slice a m cap) w3 HW3.out (by rw[List.length_append,List.length_append,List.length_append,lsb_len,lsb_len,lsb_len];omega) (fun W hW=>HSL.out W (Wr.step HF3.out HN3.out hW)) HL.out (by omega) HB.out)
  go_wp2_with (fail)
  refine HBY.out.mono ?_
  rintro e w4 ⟨rfl,F4,hw4,hf4,hn4⟩
  have HW4:=Lib.hid hw4
  have HF4:=Lib.hid (Wr.step HF3.out HN3.out hf4)
  have HN4:=Lib.hid (HN3.out.trans hn4 HF3.out.size)
  clear hw4 hf4 hn4 HBY HW3 HF3 HN3
  by_cases hcm:cap=m
  ·subst hcm
   go_wp2_with (fail)
   (try simp only[Exit.inBlock,Exit.then])
   refine bodyPost_ret (results_none rfl _ _ _) rfl ?_
   refine⟨by rfl,F4,?_,HF4.out,HN4.out⟩
   have:=HW4.out
   rw[storedB_eq S _ l X HX.out] at this
   rw[hf]
   exact this
  ·go_wp2_with (fail)
   (try simp only[Exit.inBlock,Exit.then])
   refine bodyPost_ret (results_none rfl _ _ _) rfl ?_
   refine⟨by rfl,F4,?_,HF4.out,HN4.out⟩
   have:=HW4.out
   rw[storedB_eq S _ l X HX.out] at this
   rw[hf]
   exact this
end Go.Proofs.YtmdgeoalamancaaGreatDoor
namespace Go.Proofs.YtmdgeoalamancaaGreatDoor
open Go.RowKit Go.Maps Go.WideMaps
open Bt Can Mc
theorem lawU:Keyed Tryz.prog 32:=int_keyed Tryz.underlying32
theorem zeroI (w:World):(zeroValue 3).run Tryz.prog w= .ok (.int .i64 0) w:=by kernel_rfl
def Mq (w:World) (b n N:Nat):Prop:= ∃D:DataW Unit,w.ownsMap Tryz.prog 32 (plainElem (H:=Unit) Tryz.prog 3) b n D∧IsMap D∧ ∀kl,Maps.has D kl=true→ ∃x:Nat,D.atKey kl (.lit (.int .i64 0))= .lit (.int .i64 (x:Nat))∧x<N
section
variable {w w':World} {b n N:Nat}
theorem Mq.new (w:World) (N:Nat):Mq (w.alloc (.map #[] 0)) w.heap.size 0 N:=⟨.map [],World.ownsMap_made w _ _ _,isMap_empty,fun kl h=>(by cases h)⟩
theorem Mq.lt (h:Mq w b n N):b<w.heap.size:=by
 obtain⟨D,h,_⟩:=h
 exact h.lt
theorem Mq.fr {F:List Nat} (h:Mq w b n N) (hf:Fr F w w') (hn:b ∉ F):Mq w' b n N:=by
 have hlt:=h.lt
 obtain⟨D,⟨es,clock,hb,h1,h2,h3⟩,h4⟩:=h
 exact⟨D,⟨es,clock,(hf.block b hlt hn).trans hb,h1,h2,h3⟩,h4⟩
theorem Mq.below (h:Mq w b n N) (hb:Below w.heap.size w w'):Mq w' b n N:=h.fr (Fr.of_below (F:=[]) hb) (fun h=>by cases h)
theorem Mq.more {N':Nat} (h:Mq w b n N) (hN:N≤N'):Mq w b n N':=by
 obtain⟨D,h1,h2,h3⟩:=h
 exact⟨D,h1,h2,fun kl hk=>by obtain⟨x,h4,h5⟩:=h3 kl hk;exact⟨x,h4,by omega⟩⟩
theorem Mq.look (h:Mq w b n N) {x:Int} (hx:(Lit.int .u32 x).wf=true): ∃(v:Value) (f:Bool),(Instr.lookup 265 (.map (some b)) (.int .u32 x) true).run Tryz.prog w= .ok (.tuple #[v,.bool f]) w∧(f=true→ ∃y:Nat,v= .int .i64 (y:Nat)∧y<N):=by
 obtain⟨D,h1,h2,h3⟩:=h
 have hk:keyOf Tryz.prog 32 (.int .u32 x)=some (.int .u32 x):=keyOf_int_mk Tryz.underlying32 hx
 obtain⟨v,ps,hrun,hv⟩:=World.ownsMap.look_ok h1 lawU Tryz.underlying265 (zeroI w) (plainElem_int Tryz.underlying3 (by decide)) hk
 obtain⟨c,rfl,hc,_⟩:=plainElem_int_inv Tryz.underlying3 hv
 injection hc with hc
 refine⟨_,_,hrun,fun hf=> ?_⟩
 obtain⟨y,h4,h5⟩:=h3 _ hf
 rw[hc] at h4
 injection h4 with h4
 injection h4 with _ h4
 exact⟨y,by rw[h4],h5⟩
theorem Mq.put {y:Nat} (h:Mq w b n N) (hn:n<1000000) {x:Int} (hx:(Lit.int .u32 x).wf=true) (hy:y<N) (hy6:y<1000000): ∃w',(Instr.mapUpdate 265 (.map (some b)) (.int .u32 x) (.int .i64 (y:Nat))).run Tryz.prog w= .ok () w'∧Mq w' b (n+1) N∧Fr [b] w w':=by
 obtain⟨D,h1,h2,h3⟩:=h
 have hk:keyOf Tryz.prog 32 (.int .u32 x)=some (.int .u32 x):=keyOf_int_mk Tryz.underlying32 hx
 have hwf:(Lit.int .i64 ((y:Nat):Int)).wf=true:=by
  show (decide (IntKind.i64.min≤((y:Nat):Int))&&decide (((y:Nat):Int)≤IntKind.i64.max))=true
  rw[Bool.and_eq_true,decide_eq_true_eq,decide_eq_true_eq,show IntKind.i64.min= -9223372036854775808 by decide,show IntKind.i64.max=9223372036854775807 by decide]
  omega
 obtain⟨w',hrun,r1,r2⟩:=World.ownsMap.update h1 lawU Tryz.underlying265 (by unfold maxLen;omega) hk (plainElem_int (H:=Unit) Tryz.underlying3 hwf)
 refine⟨w',hrun,⟨_,r1,h2.put _ _,fun kl hkl=> ?_⟩,(Fr.refl [b] w).grown r2 (fun k hk _=>by injection hk with hk;simp[hk])⟩
 by_cases e:kl= .int .u32 x
 ·subst e
  exact⟨y,atKey_put_same h2 (k:= .int .u32 x) trivial _ _,hy⟩
 ·rw[has_put_other e] at hkl
  rw[atKey_put_other e]
  exact h3 kl hkl
end
def jC (l:List Int):List Value:=l.map fun x=> .int .i64 x
theorem jC_get {l:List Int} {j:Nat} {x:Int} (h:l[j]? =some x):(jC l)[j]? =some (.int .i64 x):=by unfold jC;rw[List.getElem?_map,h];rfl
def Fq (F:List Nat) (w:World) (fb:Nat) (data:List Nat) (kn pn:Nat):Prop:=
 ∃(vd vp:Value) (mb n:Nat) (pr:List Int),F=fb::mb::(obk vd++obk vp)∧Own w fb [vd,.int .i64 (kn:Nat),.map (some mb),vp]∧fb<w.heap.size∧Row 0 5 1 w vd data.length (bC data)∧Mq w mb n pr.length∧n≤pr.length∧Row 0 3 1 w vp pr.length (jC pr)∧pr.length=pn∧(∀(j:Nat) (x:Int),pr[j]? =some x→ -1≤x∧x<j)∧Sep [[fb],[mb],obk vd,obk vp] w.heap.size∧data.length≤100000
theorem Fq.fr {F G:List Nat} {w w':World} {fb kn pn:Nat} {data:List Nat} (h:Fq F w fb data kn pn) (hf:Fr G w w') (hd: ∀k∈F,k ∉ G):Fq F w' fb data kn pn:=by
 obtain⟨vd,vp,mb,n,pr,rfl,h1,h2,h3,h4,h5,h6,h7,h8,h9,h10⟩:=h
 exact⟨vd,vp,mb,n,pr,rfl,h1.fr hf h2 (hd fb (by simp)),Nat.lt_of_lt_of_le h2 hf.size,h3.fr hf (fun k hk=>hd k (by simp[hk])),h4.fr hf (hd mb (by simp)),h5,h6.fr hf (fun k hk=>hd k (by simp[hk])),h7,h8,h9.up hf.size,h10⟩
theorem Fq.below {F:List Nat} {w w':World} {fb kn pn:Nat} {data:List Nat} (h:Fq F w fb data kn pn) (hb:Below w.heap.size w w'):Fq F w' fb data kn pn:=h.fr (Fr.of_below (F:=[]) hb) (fun _ _ h=>by cases h)
theorem Fq.lt {F:List Nat} {w:World} {fb kn pn:Nat} {data:List Nat} (h:Fq F w fb data kn pn): ∀k∈F,k<w.heap.size:=by
 obtain⟨vd,vp,mb,n,pr,rfl,h1,h2,h3,h4,h5,h6,h7,h8,h9,h10⟩:=h
 intro k hk
 rcases List.mem_cons.1 hk with rfl|hk
 ·exact h2
 rcases List.mem_cons.1 hk with rfl|hk
 ·exact h4.lt
 rcases List.mem_append.1 hk with hk|hk
 ·exact h9.1 2 k hk
 ·exact h9.1 3 k hk
def Fd (F:List Nat) (w:World) (fb:Nat) (data:List Nat) (kn:Nat):Prop:=Fq F w fb data kn (min kn (data.length-2))
set_option maxHeartbeats 1000000 in
theorem newf_any (data:List Nat) (n B:Nat) (v:Value) (w:World) (h:Sl w B 1 v n (bC data)) (hB:B≤w.heap.size) (hn:n=data.length) (hl:n≤100000):Calls Tryz.prog 116 #[v] w fun e w'=> ∃fb F,e= .returned (.pointer (some ⟨fb,0,none⟩))∧Fd F w' fb data 0∧(∀k∈F,w.heap.size≤k)∧Below w.heap.size w w':=by
 obtain⟨a,cap,rfl,hcap⟩:=h.form
 have HC:=Lib.hid (cloneB_any data n _ B w h hB (by omega))
 have HN:=Lib.hid hn
 clear h hn
 go_enter Tryz.func116,Tryz.ntmps116
 go_wp2_with (fail)
 refine HC.out.mono ?_
 rintro e w1 ⟨v1,rfl,hr1,hb1⟩
 have HR1:=Lib.hid hr1
 have HB1:=Lib.hid hb1
 obtain⟨a1,c1,rfl,_⟩:=hr1.form
 have hmm:=fun W=>run_makeMap (P:=Tryz.prog) 265 W
 clear hr1 hb1 HC
 go_wp2_with (fail)
 go_ret
 obtain⟨w2,hw2⟩: ∃z:World,z=w1.alloc (.map #[] 0):=⟨_,rfl⟩
 have hb2:Below w1.heap.size w1 w2:=by rw[hw2];exact (Below.refl _ _).alloc (Nat.le_refl _) _
 have hz2:w2.heap.size=w1.heap.size+1:=by rw[hw2];simp
 have hm2:Mq w2 w1.heap.size 0 0:=by rw[hw2];exact Mq.new w1 0
 have hz1:=HB1.out.size
 have hb3:=(Below.refl w2.heap.size w2).alloc (Nat.le_refl _) (.cells #[.slice a1 n c1,.int .i64 0,.map (some w1.heap.size),.slice none 0 0] 267)
 have hr1:=HR1.out
 have hlt:=fun k hk=>hr1.lt k (mem_obk.1 hk)
 refine⟨w1.heap.size+1,(w1.heap.size+1)::w1.heap.size::(obk (.slice a1 n c1)++obk (.slice none 0 0)),rfl,⟨.slice a1 n c1,.slice none 0 0,w1.heap.size,0,[],rfl,?_,?_,?_,?_,Nat.le_refl _,Row.nil,by simp,fun j x hj=>(by simp at hj),?_,by rw[←HN.out];exact hl⟩,fun k hk=> ?_,?_⟩
 ·rw[←hw2]
  exact Own.new_at w2 [.slice a1 n c1,.int .i64 0,.map (some w1.heap.size),.slice none 0 0] 267 _ hz2.symm
 ·rw[←hw2];simp;omega
 ·rw[←hw2,←HN.out]
  exact ((hr1.below hb2).below hb3).mono (Nat.zero_le _)
 ·rw[←hw2]
  exact hm2.below hb3
 ·rw[←hw2]
  refine⟨fun i k hk=> ?_,fun i j k hij hk hk2=> ?_⟩
  ·simp only[World.size_alloc]
   rcases i with _|_|_|_|i<;>simp at hk
   ·omega
   ·omega
   ·have:=(hlt k hk).2;omega
   ·simp[obk,Value.ownBlock] at hk
  ·rcases i with _|_|_|_|i<;>simp at hk<;>rcases j with _|_|_|_|j<;>simp at hk2<;>first|omega|(simp[obk,Value.ownBlock] at hk;done)|(simp[obk,Value.ownBlock] at hk2;done)|(have:=(hlt k hk).2;omega)|(have:=(hlt k hk2).2;omega)
 ·rcases List.mem_cons.1 hk with rfl|hk
  ·omega
  rcases List.mem_cons.1 hk with rfl|hk
  ·exact hz1
  rcases List.mem_append.1 hk with hk|hk
  ·exact (hlt k hk).1
  ·simp[obk,Value.ownBlock] at hk
 ·rw[←hw2]
  exact HB1.out.trans ((hb2.trans (hb3.mono hb2.size)).mono hz1)
end Go.Proofs.YtmdgeoalamancaaGreatDoor
namespace Go.Proofs.YtmdgeoalamancaaGreatDoor
open Go.RowKit Go.Maps Go.WideMaps
open Bt Can Mc
theorem wf_u32 (x:Nat) (h:x<4294967296):(Lit.int .u32 ((x:Nat):Int)).wf=true:=by
 show (decide (IntKind.u32.min≤((x:Nat):Int))&&decide (((x:Nat):Int)≤IntKind.u32.max))=true
 rw[Bool.and_eq_true,decide_eq_true_eq,decide_eq_true_eq,show IntKind.u32.min=0 by decide,show IntKind.u32.max=4294967295 by decide]
 omega
theorem bits_or_nat (a b:Int): ∃x:Nat,bits .or .u32 a b=((x:Nat):Int)∧x<4294967296:=by
 refine⟨(BitVec.ofInt 32 a |||BitVec.ofInt 32 b).toNat,?_,(BitVec.ofInt 32 a |||BitVec.ofInt 32 b).isLt⟩
 unfold bits
 show IntKind.u32.wrap (((BitVec.ofInt 32 a |||BitVec.ofInt 32 b).toNat:Nat):Int)=_
 exact u32_wrap _ (BitVec.ofInt 32 a |||BitVec.ofInt 32 b).isLt
set_option maxHeartbeats 2000000 in
theorem three_any (F:List Nat) (fb kn pn i:Nat) (data:List Nat) (w:World) (h:Fq F w fb data kn pn) (hi:i+2<data.length):Calls Tryz.prog 154 #[.pointer (some ⟨fb,0,none⟩),.int .i64 (i:Nat)] w fun e w'=>(∃x:Nat,e= .returned (.int .u32 (x:Nat))∧x<4294967296)∧Below w.heap.size w w':=by
 obtain⟨vd,vp,mb,n,pr,rfl,h1,h2,h3,h4,h5,h6,h7,h8,h9,h10⟩:=h
 obtain⟨ba,bc,rfl,_⟩:=h3.form
 obtain⟨b,off,rfl,_⟩:=sl_cells h3.sl (by omega)
 have k0:=h1.1 0 _ rfl
 obtain⟨x0,hx0⟩: ∃x,data[i]? =some x:=⟨_,List.getElem?_eq_getElem (by omega)⟩
 obtain⟨x1,hx1⟩: ∃x,data[i+1]? =some x:=⟨_,List.getElem?_eq_getElem (by omega)⟩
 obtain⟨x2,hx2⟩: ∃x,data[i+2]? =some x:=⟨_,List.getElem?_eq_getElem (by omega)⟩
 have c0:=sl_same h3.sl (by omega) i _ (bC_get hx0)
 have c1:=sl_same h3.sl (by omega) (i+1) _ (bC_get hx1)
 have c2:=sl_same h3.sl (by omega) (i+2) _ (bC_get hx2)
 obtain⟨N,hN⟩: ∃z,data.length=z:=⟨_,rfl⟩
 rw[hN] at k0 hi h10
 obtain⟨i1,hi1⟩: ∃z,i+1=z:=⟨_,rfl⟩
 obtain⟨i2,hi2⟩: ∃z,i+2=z:=⟨_,rfl⟩
 rw[hi1] at c1
 rw[hi2] at c2
 have q1:IntKind.i64.wrap ((i:Int)+1)=((i1:Nat):Int):=by rw[IntWalk.i64_in _ (by omega)];omega
 have q2:IntKind.i64.wrap ((i:Int)+2)=((i2:Nat):Int):=by rw[IntWalk.i64_in _ (by omega)];omega
 have l0:(i:Int)<(N:Int):=by omega
 have l1:(i1:Int)<(N:Int):=by omega
 have l2:(i2:Int)<(N:Int):=by omega
 clear h1 h3 h4 h6 h7 h8 h9 hx0 hx1 hx2 hN hi1 hi2 h5
 go_enter Tryz.func154,Tryz.ntmps154
 go_upto_region 1 with (fail)
 go_quiet (fail)
 go_wp2_with (fail)
 go_ret
 refine⟨?_,below_drewN (Below.refl _ _) _⟩
 obtain⟨x,hx,hl⟩:=bits_or_nat (bits .or .u32 ((x0:Int)%4294967296) ((x1:Int)%4294967296*256%4294967296)) ((x2:Int)%4294967296*65536%4294967296)
 exact⟨x,by rw[←hx];rfl,hl⟩
theorem nearest_any (F:List Nat) (fb kn pn:Nat) (x:Nat) (data:List Nat) (w:World) (h:Fq F w fb data kn pn) (hx:x<4294967296):Calls Tryz.prog 155 #[.pointer (some ⟨fb,0,none⟩),.int .u32 (x:Nat)] w fun e w'=>(∃y:Int,e= .returned (.int .i64 y)∧ -1≤y∧y<(pn:Int))∧w'=w:=by
 obtain⟨vd,vp,mb,n,pr,rfl,h1,h2,h3,h4,h5,h6,h7,h8,h9,h10⟩:=h
 have k2:=h1.1 2 _ rfl
 obtain⟨v,f,hrun,hf⟩:=h4.look (wf_u32 x hx)
 rw[h7] at hf
 clear h1 h3 h4 h6 h7 h8 h9 h5
 cases f with
 |true=>
  obtain⟨y,rfl,hy⟩:=hf rfl
  clear hf
  go_enter Tryz.func155,Tryz.ntmps155
  go_wp2_with (fail)
  go_ret
  exact⟨⟨_,rfl,by omega,by omega⟩,rfl⟩
 |false=>
  clear hf
  go_enter Tryz.func155,Tryz.ntmps155
  go_wp2_with (fail)
  go_ret
  exact⟨⟨_,rfl,by omega,by omega⟩,rfl⟩
def SamP (data:List Nat) (a b most:Nat) (w:World) (e:Ending) (w':World):Prop:=(∃n:Nat,e= .returned (.int .i64 (n:Nat))∧n≤most∧a+n≤data.length∧b+n≤data.length∧ ∀k,k<n→data.getD (a+k) 0=data.getD (b+k) 0)∧Below w.heap.size w w'
set_option maxHeartbeats 4000000 in
theorem same_any (F:List Nat) (fb kn pn a b most:Nat) (data:List Nat) (w:World) (h:Fq F w fb data kn pn) (ha:a≤data.length) (hb:b≤data.length) (hm:most≤1000):Calls Tryz.prog 156 #[.pointer (some ⟨fb,0,none⟩),.int .i64 (a:Nat),.int .i64 (b:Nat),.int .i64 (most:Nat)] w (SamP data a b most w):=by
 have HFD:=Lib.hid h
 obtain⟨vd,vp,mb,n,pr,rfl,h1,h2,h3,h4,h5,h6,h7,h8,h9,h10⟩:=h
 obtain⟨ba,bc,rfl,_⟩:=h3.form
 have k0:=h1.1 0 _ rfl
 have HK0:=Lib.hid (fun (W:World) (hW:Below w.heap.size w W)=>(h1.below hW h2).1 0 _ rfl)
 have HSL:=Lib.hid (fun (W:World) (hW:Below w.heap.size w W)=>h3.sl.below hW)
 obtain⟨N,hN⟩: ∃z,data.length=z:=⟨_,rfl⟩
 have HN:=Lib.hid hN
 rw[hN] at k0 HK0 HSL ha hb h10
 have d1:decide ((a:Int)<0)=false:=decide_eq_false (by omega)
 have d2:decide ((b:Int)<0)=false:=decide_eq_false (by omega)
 have q1:IntKind.i64.wrap ((N:Int)-(a:Int))=((N-a:Nat):Int):=by rw[IntWalk.i64_in _ (by omega)];omega
 have q2:IntKind.i64.wrap ((N:Int)-(b:Int))=((N-b:Nat):Int):=by rw[IntWalk.i64_in _ (by omega)];omega
 obtain⟨A,hA⟩: ∃z,N-a=z:=⟨_,rfl⟩
 obtain⟨B,hB⟩: ∃z,N-b=z:=⟨_,rfl⟩
 rw[hA] at q1
 rw[hB] at q2
 obtain⟨M,hM⟩: ∃z,min (min most A) B=z:=⟨_,rfl⟩
 have qm:(if (B:Int)<(if A<most then (A:Int) else (most:Int)) then (B:Int) else (if A<most then (A:Int) else (most:Int)))=((M:Nat):Int):=by
  rw[←hM]
  split<;>split<;>(try split)<;>omega
 have HM:Hid (M≤most∧M≤A∧M≤B):=Lib.hid (by omega)
 have HA:=Lib.hid hA
 have HB:=Lib.hid hB
 clear h1 h3 h4 h6 h7 h8 h9 h5 hN hA hB hM
 go_enter Tryz.func156,Tryz.ntmps156
 go_upto_region 3 with (fail)
 go_region
 all_goals
  have HK1:=Lib.hid (fun (W:World) (hW:Below w.heap.size w W)=>HK0.out W hW)
  go_wp2_with (fail)
  go_loopw [9] (fun u wr=> ∃j:Nat,u= .int .i64 j∧j≤M∧Hid (∀k,k<j→data.getD (a+k) 0=data.getD (b+k) 0)∧Hid (Below w.heap.size w wr)) (fun u _=>M-(intOf u).toNat)
  case atStart=>exact⟨0,rfl,Nat.zero_le _,Lib.hid (fun k hk=>by omega),Lib.hid (Below.refl w.heap.size w).drew⟩
  case round=>
   obtain⟨j,rfl,hj,HE,HBW⟩:=hrel
   obtain⟨wo,rfl⟩: ∃z:World,z=wr:=⟨_,rfl⟩
   by_cases hlt:j<M
   ·have e1:decide (j<M)=true:=decide_eq_true hlt
    have e2:decide ((j:Int)<(M:Int))=true:=decide_eq_true (by omega)
    have hMM:=HM.out
    have hAA:=HA.out
    have hBB:=HB.out
    obtain⟨xa,hxa⟩: ∃x,data[a+j]? =some x:=⟨_,List.getElem?_eq_getElem (by have:=HN.out;omega)⟩
    obtain⟨xb,hxb⟩: ∃x,data[b+j]? =some x:=⟨_,List.getElem?_eq_getElem (by have:=HN.out;omega)⟩
    obtain⟨bb,off,rfl,_⟩:=sl_cells (HSL.out wo HBW.out) (by omega)
    have ca:=sl_same (HSL.out wo HBW.out) (by omega) (a+j) _ (bC_get hxa)
    have cb:=sl_same (HSL.out wo HBW.out) (by omega) (b+j) _ (bC_get hxb)
    have k0:=HK1.out wo HBW.out
    obtain⟨ia,hia⟩: ∃z,a+j=z:=⟨_,rfl⟩
    obtain⟨ib,hib⟩: ∃z,b+j=z:=⟨_,rfl⟩
    rw[hia] at ca
    rw[hib] at cb
    have p1:IntKind.i64.wrap ((a:Int)+(j:Int))=((ia:Nat):Int):=by rw[IntWalk.i64_in _ (by omega)];omega
    have p2:IntKind.i64.wrap ((b:Int)+(j:Int))=((ib:Nat):Int):=by rw[IntWalk.i64_in _ (by omega)];omega
    have p3:IntKind.i64.wrap ((j:Int)+1)=((j+1:Nat):Int):=by rw[IntWalk.i64_in _ (by omega)];omega
    have l1:(ia:Int)<(N:Int):=by omega
    have l2:(ib:Int)<(N:Int):=by omega
    have HSN:=Lib.hid (show data.getD (a+j) 0=xa∧data.getD (b+j) 0=xb by rw[List.getD_eq_getElem?_getD,List.getD_eq_getElem?_getD,hxa,hxb];exact⟨rfl,rfl⟩)
    clear hMM hAA hBB hxa hxb hia hib
    by_cases hxx:xa=xb
    ·have t1:((xa:Int)==(xb:Int))=true:=by rw[beq_iff_eq];omega
     have t2:(xa==xb)=true:=by rw[beq_iff_eq];exact hxx
     have HE2:Hid (∀k,k<j+1→data.getD (a+k) 0=data.getD (b+k) 0):=Lib.hid (fun k hk=>by
      by_cases e:k=j
      ·subst e;rw[HSN.out.1,HSN.out.2,hxx]
      ·exact HE.out k (by omega))
     clear hxx HSN
     go_upto_region 5 with (fail)
     go_quiet (fail)
     have HB3:=Lib.hid (below_drewN HBW.out nq)
     clear ca cb k0
     generalize wo.drewN nq=w3 at*
     go_wp2_with (fail)
     go_roundw
     case rel=>exact⟨j+1,rfl,hlt,HE2,HB3⟩
     case measure=>simp[intOf]<;>omega
    ·have t1:((xa:Int)==(xb:Int))=false:=by rw[beq_eq_false_iff_ne];omega
     have t2:(xa==xb)=false:=by rw[beq_eq_false_iff_ne];exact hxx
     clear hxx HSN
     go_upto_region 5 with (fail)
     go_quiet (fail)
     have HB3:=Lib.hid (below_drewN HBW.out nq)
     clear ca cb k0
     generalize wo.drewN nq=w3 at*
     go_wp2_with (fail)
     go_ret
     have hMM:=HM.out
     have hAA:=HA.out
     have hBB:=HB.out
     exact⟨⟨j,by rfl,by omega,by rw[HN.out];omega,by rw[HN.out];omega,HE.out⟩,HB3.out⟩
   ·have e1:decide (j<M)=false:=decide_eq_false hlt
    have e2:decide ((j:Int)<(M:Int))=false:=decide_eq_false (by omega)
    go_upto_region 5 with (fail)
    go_quiet (fail)
    have HB3:=Lib.hid (below_drewN HBW.out nq)
    generalize wo.drewN nq=w3 at*
    go_wp2_with (fail)
    go_ret
    have hMM:=HM.out
    have hAA:=HA.out
    have hBB:=HB.out
    exact⟨⟨j,by rfl,by omega,by rw[HN.out];omega,by rw[HN.out];omega,HE.out⟩,HB3.out⟩
end Go.Proofs.YtmdgeoalamancaaGreatDoor
