/- Texts of this seat,put together: Put,Crc,Same,Util,Pack,FrameU,Apart,Opens,OpenMain. -/
import Derived.Test.YtlaipigilikmbaaGreatDoorMb1
import Derived.Test.YtlaipigilikmbaaGreatDoorMb12
import Derived.Test.YtlaipigilikmbaaGreatDoorChecked
import Derived.WalkLawsBesides
import Derived.BigQuiet
import Derived.Deep.QuietTactic
import Derived.Deep.RegionHeld3
import Derived.Deep.RegionLaw
import Derived.Deep.DeepCutAuto
namespace Go.Proofs.YtlaipigilikmbaaGreatDoor
noncomputable section
set_option linter.unusedVariables false
set_option linter.unusedSimpArgs false
namespace PutW
open RowKit
theorem bytes_at(l:List UInt8)(i:Nat)(h:i<l.length):(u8v l).toArray[i]? = some (.int .u8 (l[i].toNat:Int)):=by simp[u8v,h]
theorem kF(l:List UInt8)(i:Nat)(x:UInt8):(u8v l).toArray.setIfInBounds i (.int .u8 (x.toNat:Int))=(u8v (l.set i x)).toArray:=by simp[u8v,List.map_set]
theorem grown_put{w w':World}{g:Nat}(h:w.grownBy w' (some g))(i:Nat)(u:Value):w.grownBy (w'.setCell ⟨g,i,none⟩ u) (some g) :=
 ⟨h.os,h.tape,h.output,by simpa[World.setCell] using h.size,fun k hk hne=>(Below.heap_setCell w' ⟨g,i,none⟩ u k (by rintro rfl;exact hne rfl)).trans (h.block k hk hne)⟩
theorem byte_spelt(x k:Nat):((x:Int) / 2^(8*k))%256=((UInt8.ofNat (x / 256^k)).toNat:Int):=by
 have e0:(256:Nat)^k=2^(8*k):=by rw[show(256:Nat)=2^8 from rfl,←Nat.pow_mul]
 rw[UInt8.toNat_ofNat',e0]
 have:((x:Int) / 2^(8*k))=((x / 2^(8*k):Nat):Int):=by simp
 rw[this];omega
theorem put_any(g off m c:Nat)(l:List UInt8)(x:Nat)(w:World)(hB:Bk w g 5 (u8v l).toArray)(hin:off+m≤l.length)(hm:m≤8) :
 Calls Tryz.prog 37 #[.slice (some ⟨g,off,none⟩) m c,.int .u64 x] w fun e w'=>e=.returned (.tuple #[])∧Bk w' g 5 (u8v (splL l off (lowB x m))).toArray∧w.grownBy w' (some g):=by
 go_enter Tryz.func37,Tryz.ntmps37
 go_wp2
 go_loopw [7] (fun i wr=>∃ k:Nat,k≤m∧i=.int .i64 k∧Bk wr g 5 (u8v (splL l off (lowB x k))).toArray∧w.grownBy wr (some g)) (fun i _=>m-(intOf i).toNat)
 case atStart=>exact⟨0,by omega,rfl,by rw[lowB_zero,splL_nil];exact hB,World.grownBy.refl _ _⟩
 case round =>
  obtain⟨k,hk,rfl,hB,hg⟩:=hrel;by_cases hlt:k<m
  ·have hd:decide ((k:Int)<(m:Int))=true:=by simp;omega
   have hlen:off+(lowB x k).length≤l.length:=by rw[af];omega
   have hl2:=fQ l off (lowB x k) hlen;have hc:=hB.at_ (bytes_at (splL l off (lowB x k)) (off+k) (by rw[hl2];omega));have hf:=hB.free (off+k);have HS:=hide (splL_snoc l off (lowB x k) (UInt8.ofNat (x / 256^k)) (by rw[af];omega));have HL:=hide (af x k);have hby:=byte_spelt x k;generalize ((splL l off (lowB x k))[off+k]'(by rw[hl2];omega)).toNat=q at hc;clear hl2 hlen;obtain⟨z,hz⟩:∃ z,z=UInt8.ofNat (x / 256^k):=⟨_,rfl⟩;rw[←hz]at hby HS;have HZ:=hide hz.symm;clear hz
   go_wp2
   go_roundw
   case rel =>
    refine⟨k+1,by omega,by go_num,?_,grown_put hg _ _⟩;have hput:=hB.put (off+k) (.int .u8 (z.toNat:Int));rw[kF]at hput;have hs:=HS.out;rw[HL.out]at hs;rw[nD,show lowB x k++[UInt8.ofNat (x / 256^k)]=lowB x k++[UInt8.ofNat (x / 256^k)] from rfl,HZ.out,hs];exact hput
   case measure=>simp[intOf];omega
  ·go_wp2
   go_end0
   obtain rfl:k=m:=by omega
   exact⟨rfl,hB,hg⟩
theorem put_int(g off m c:Nat)(l:List UInt8)(x:Int)(w:World)(hB:Bk w g 5 (u8v l).toArray)(hin:off+m≤l.length)(hm:m≤8)(hx:0≤x) :
 Calls Tryz.prog 37 #[.slice (some ⟨g,off,none⟩) m c,.int .u64 x] w fun e w'=>e=.returned (.tuple #[])∧Bk w' g 5 (u8v (splL l off (lowB x.toNat m))).toArray∧w.grownBy w' (some g):=by
 obtain⟨x,rfl⟩:=Int.eq_ofNat_of_zero_le hx;exact put_any g off m c l x w hB hin hm
end PutW
namespace CrcW
open RowKit Crc
theorem lsb_toNat(x:BitVec 32):x.getLsbD 0=decide (x.toNat%2=1):=by
 rw[BitVec.getLsbD,Nat.testBit_zero]
theorem bitStep_toNat(x:BitVec 32):(kK x).toNat=(x.toNat / 2) ^^^ (if x.toNat%2=1 then 3988292384 else 0):=by
 unfold kK;rw[BitVec.toNat_xor,lsb_toNat]
 by_cases h:x.toNat%2=1<;>simp[h,Nat.shiftRight_eq_div_pow]
theorem step_spelt(x:BitVec 32):bits .xor .u32 ((x.toNat:Int) / 2) (bits .and .u32 3988292384 (-bits .and .u32 (x.toNat:Int) 1%4294967296))=((kK x).toNat:Int):=by
 have hx:=x.isLt;have e1:bits .and .u32 (x.toNat:Int) 1=((x.toNat &&& 1:Nat):Int):=u32_and_nat x.toNat 1 hx (by omega);rw[e1,Nat.and_one_is_mod,bitStep_toNat]
 have e2:((x.toNat:Int) / 2)=((x.toNat / 2:Nat):Int):=by omega
 rw[e2];by_cases h:x.toNat%2=1
 ·rw[h,if_pos rfl]
  have e3:(-((1:Nat):Int))%4294967296=((4294967295:Nat):Int):=by decide
  rw[e3];have e4:bits .and .u32 3988292384 ((4294967295:Nat):Int)=((3988292384 &&& 4294967295:Nat):Int):=u32_and_nat 3988292384 4294967295 (by omega) (by omega);rw[e4,show(3988292384 &&& 4294967295:Nat)=3988292384 from by decide];exact u32_xor_nat _ _ (by omega) (by omega)
 ·have h0:x.toNat%2=0:=by omega
  rw[if_neg h,h0]
  have e3:(-((0:Nat):Int))%4294967296=((0:Nat):Int):=by decide
  rw[e3];have e4:bits .and .u32 3988292384 ((0:Nat):Int)=((3988292384 &&& 0:Nat):Int):=u32_and_nat 3988292384 0 (by omega) (by omega);rw[e4,Nat.and_zero];exact u32_xor_nat _ _ (by omega) (by omega)
theorem mix_spelt(x:BitVec 32)(b:UInt8):bits .xor .u32 (x.toNat:Int) ((b.toNat:Int)%4294967296)=((x ^^^ BitVec.ofNat 32 b.toNat).toNat:Int):=by
 have hb:=b.toNat_lt
 have e:((b.toNat:Int)%4294967296)=((b.toNat:Nat):Int):=by omega
 rw[e,u32_xor_nat _ _ x.isLt (by omega),BitVec.toNat_xor,BitVec.toNat_ofNat,Nat.mod_eq_of_lt (show b.toNat<2^32 by omega)]
theorem not_spelt(x:BitVec 32):bits .xor .u32 IntKind.u32.max (x.toNat:Int)=((~~~ x).toNat:Int):=by
 have hx:=x.isLt
 have e:IntKind.u32.max=((4294967295:Nat):Int):=by decide
 rw[e,u32_xor_nat _ _ (by omega) hx,BitVec.toNat_not,Nat.xor_comm];have:=congrArg BitVec.toNat (BitVec.xor_allOnes (x:=x));rw[BitVec.toNat_xor,BitVec.toNat_not,BitVec.toNat_allOnes]at this;exact congrArg Int.ofNat this
theorem crc_any(A:Option Addr)(l:List UInt8)(n cap:Nat)(w:World)(hn:n=l.length)(hl:n≤140737488355328)(hr:Rd w A (u8v l)) :
 Calls Tryz.prog 24 #[.slice A n cap] w fun e w'=>e=.returned (.int .u32 (crc l).toNat)∧w=w':=by
 subst hn
 go_enter Tryz.func24,Tryz.ntmps24
 go_wp2
 go_loop [3,8,5,16] (fun c i _ _=>∃ (k:Nat) (x:BitVec 32),k≤l.length∧i=.int .i64 k∧c=.int .u32 x.toNat∧Hid (x=reg 0xFFFFFFFF#32 (l.take k))) (fun _ i _ _=>l.length-(intOf i).toNat)
 case atStart=>exact⟨0,0xFFFFFFFF#32,by omega,rfl,rfl,hide (by simp[reg])⟩
 case round =>
  obtain⟨k,x,hk,rfl,rfl,HX⟩:=hrel;by_cases hlt:k<l.length
  ·obtain⟨b,off,rfl,hck⟩:=hr.at_ (i:=k) (by simpa[u8v] using hlt);simp only[u8v,List.getElem_map]at hck;have hms:=mix_spelt x l[k];have HR:=hide (congrArg (fun t=>reg 0xFFFFFFFF#32 t) (List.take_succ_eq_append_getElem hlt));simp only[reg_snoc]at HR;have HB:Hid (byteStep x l[k]=jQ 8 (x ^^^ BitVec.ofNat 32 l[k].toNat)):=hide rfl;generalize x ^^^ BitVec.ofNat 32 l[k].toNat=y at hms HB
   go_wp2
   clear hms hck
   go_loop [3,16] (fun c i=>∃ (j:Nat) (z:BitVec 32),j≤8∧i=.int .i64 j∧c=.int .u32 z.toNat∧Hid (z=jQ j y)) (fun _ i=>8-(intOf i).toNat)
   case atStart=>exact⟨0,y,by omega,rfl,rfl,hide rfl⟩
   case round =>
    obtain⟨j,z,hj,rfl,rfl,HZ⟩:=hrel;by_cases hlt:j<8
    ·have hst:=step_spelt z
     have HZ':Hid (kK z=jQ (j+1) y):=by rw[HZ.out];exact hide rfl
     generalize kK z=z' at hst HZ'
     go_wp2
     go_round
     case rel=>exact⟨j+1,z',by omega,by go_num,rfl,HZ'⟩
     case measure=>simp[intOf];omega
    ·go_wp2
     go_round
     case rel =>
      refine⟨k+1,z,by omega,by go_num,rfl,?_⟩
      obtain rfl:j=8:=by omega
      have h1:=HR.out;unfold Hid;rw[h1,HZ.out,←HB.out,HX.out]
     case measure=>simp[intOf];omega
  ·have hn:=not_spelt x
   have HF:Hid (crc l= ~~~ x):=by
    obtain rfl:k=l.length:=by omega
    rw[HX.out,List.take_length];exact hide rfl
   generalize ~~~ x=y at hn HF
   go_wp2
   go_ret
   exact⟨by rw[HF.out];rfl,rfl⟩
end CrcW
section
open RowKit
def pickN(c:Int)(n:Nat):Nat:=((if c<0 then -(c+1) else c)%(n:Int)).toNat
theorem pickN_lt(c:Int)(n:Nat)(hn:0<n):pickN c n<n:=by
 unfold pickN;have h1:0≤(if c<0 then -(c+1) else c)%(n:Int):=Int.emod_nonneg _ (by omega);have h2:=Int.emod_lt_of_pos (if c<0 then -(c+1) else c) (b:=(n:Int)) (by omega);omega
theorem pickN_cast(c:Int)(n:Nat)(hn:0<n):((pickN c n:Nat):Int)=(if c<0 then -(c+1) else c)%(n:Int):=by
 unfold pickN;have h1:0≤(if c<0 then -(c+1) else c)%(n:Int):=Int.emod_nonneg _ (by omega);omega
theorem pick_any(c:Int)(n:Nat)(q:Int)(hq:q=(n:Int))(hn:0<n)(hn2:n≤4611686018427387904)(h1:-9223372036854775808≤c)(h2:c≤9223372036854775807)(w:World) :
 Calls Tryz.prog 9 #[.int .i64 c,.int .i64 q] w fun e w'=>e=.returned (.int .i64 (pickN c n))∧w=w':=by
 subst hq;rw[pickN_cast c n hn]
 have hne:((n:Int)==0)=false:=by simp;omega
 by_cases hc:c<0
 ·rw[if_pos hc]
  have hE:-(c+1).tmod (n:Int)=-(c+1)%(n:Int):=by
   rw[←Int.neg_tmod,Int.tmod_eq_emod_of_nonneg (by omega)]
  have HE:=hide hE;clear hE
  go_enter Tryz.func9,Tryz.ntmps9
  go_wp2
  go_ret
  exact⟨congrArg (fun x=>Ending.returned (.int .i64 x)) HE.out,rfl⟩
 ·rw[if_neg hc]
  go_enter Tryz.func9,Tryz.ntmps9
  go_wp2
  go_ret
  exact⟨rfl,rfl⟩
theorem u8_info:(Tryz.prog.info? 5).map (fun i=>(i.zero,i.size,i.bytes))=some (some (.int .u8 0),1,1):=by kernel_rfl
theorem own_rd{w:World}{base:Nat}{e:TypeId}{A:Option Addr}{n c:Nat}{xs:List Value}(h:w.ownsRow base e 1 (.slice A n c) n xs):Rd w A xs:=Rd.of_own h
end
section
open RowKit
end
namespace PackW
open RowKit PutW CrcW Fram Crc
def frV(k lba seq:Int)(A:Option Addr)(m c:Nat):Value:=.agg #[.int .i64 k,.int .i64 lba,.int .i64 seq,.slice A m c]
theorem rd_src{w:World}{A:Option Addr}{xs:List Value}(h:Rd w A xs)(hx:0<xs.length):∃ ad,A=some ad∧∀ j v,xs[j]? = some v→w.cell? (ad.add j)=some v:=by
 obtain⟨b,off,hA,_⟩:=h.form hx;exact⟨_,hA,fun j v hv=>h.cells _ hA j v hv⟩
theorem splice_bytes(l d:List UInt8)(off:Nat):(splice (u8v l) off (u8v d)).toArray=(u8v (splL l off d)).toArray:=by
 unfold splice splL u8v;simp[List.map_take,List.map_drop]
theorem u8_size:(Tryz.prog.info? 5).map (·.size)=some 1:=by kernel_rfl
theorem rd_bk{w:World}{g:Nat}{e:TypeId}{l:List UInt8}(h:Bk w g e (u8v l).toArray):Rd w (some ⟨g,0,none⟩) (u8v l) :=
 .inr ⟨g,0,rfl,fun i u hu=>by rw[Nat.zero_add];exact h.at_ (by simpa using hu)⟩
theorem zeros_made(n:Nat):madeCells #[.int .u8 0] n=(u8v (List.replicate n 0)).toArray:=by
 apply Array.toList_inj.1
 rw[toList_madeCells_one];simp[u8v]
theorem make_bytes(n:Nat)(hn:n≤4096)(w:World):(Instr.makeSlice 25 (.int .i64 n) (.int .i64 n)).run Tryz.prog w=.ok (.slice (some ⟨w.heap.size,0,none⟩) n n) (w.alloc (.cells (u8v (List.replicate n 0)).toArray 5)):=by
 obtain⟨i0,hi0,hz0,hz1,hz2⟩:=info_parts u8_info;have hr:=run_make (P:=Tryz.prog) w 25 5 i0 _ Tryz.underlying25 hi0 hz0 .i64 .i64 n n (by omega) (by omega) (by rw[hz2];omega) (by omega);rw[hr,hz1];simp only[Int.toNat_natCast,Nat.mul_one];rw[show(Value.int .u8 0).cells=#[.int .u8 0] from rfl,zeros_made]
theorem blank_cells(n:Nat)(kd:Int)(h0:0≤kd)(h3:kd≤255):((((u8v (List.replicate n 0)).toArray.setIfInBounds 0 (.int .u8 165)).setIfInBounds 1 (.int .u8 kd)).setIfInBounds (n-1) (.int .u8 90))=(u8v (eQ n kd.toNat)).toArray:=by
 have e1:(Value.int .u8 165)=.int .u8 ((165:UInt8).toNat:Int):=rfl;have e2:(Value.int .u8 90)=.int .u8 ((90:UInt8).toNat:Int):=rfl
 have e3:(Value.int .u8 kd)=.int .u8 ((UInt8.ofNat kd.toNat).toNat:Int):=by
  congr 1
  rw[UInt8.toNat_ofNat'];omega
 rw[e1,e2,e3,kF,kF,kF];rfl
set_option maxRecDepth 100000 in
set_option maxHeartbeats 2000000 in
theorem pack_ok(n:Nat)(k lba seq:Int)(A:Option Addr)(d:List UInt8)(m c:Nat)(w:World)(h24:24≤n)(hmax:n≤4096)(hk1:1≤k)(hk3:k≤3)(hl0:0≤lba)(hl:lba≤4294967295)(hs0:0≤seq)(hs:seq≤4611686018427387904)(hm:m=d.length)(hmn:m+21≤n)(hr:Rd w A (u8v d)) :
 Calls Tryz.prog 20 #[.int .i64 n,frV k lba seq A m c] w fun e w'=>∃ v,e=.returned (.tuple #[v,.nilIface])∧w'.ownsRow w.heap.size 5 1 v n (u8v (pack n k.toNat lba.toNat seq.toNat d))∧Below w.heap.size w w':=by
 have hmk:=fun W=>make_bytes n hmax W;have HM:=hide hm;clear hm;have hb0:Below w.heap.size w (w.alloc (.cells #[.int .i64 k,.int .i64 lba,.int .i64 seq,.slice A m c] 53)):=(Below.refl _ _).alloc (Nat.le_refl _) _;have hF0:Bk (w.alloc (.cells #[.int .i64 k,.int .i64 lba,.int .i64 seq,.slice A m c] 53)) w.heap.size 53 #[.int .i64 k,.int .i64 lba,.int .i64 seq,.slice A m c]:=Bk.new _ _ _;obtain⟨p0,hp0⟩:∃ p0,p0=List.replicate n (0:UInt8):=⟨_,rfl⟩;rw[←hp0]at hmk;have HP:=hide hp0;clear hp0;unfold frV
 go_enter Tryz.func20,Tryz.ntmps20
 go_wp2_with fail
 have hF1:=hF0.alloc (.cells (u8v p0).toArray 5);have hB1:=Bk.new (w.alloc (.cells #[.int .i64 k,.int .i64 lba,.int .i64 seq,.slice A m c] 53)) 5 (u8v p0).toArray;have hb1:=hb0.alloc hb0.size (.cells (u8v p0).toArray 5)
 have hg1:(w.alloc (.cells #[.int .i64 k,.int .i64 lba,.int .i64 seq,.slice A m c] 53)).heap.size=w.heap.size+1:=by simp
 rw[hg1]at hB1;generalize (w.alloc (.cells #[.int .i64 k,.int .i64 lba,.int .i64 seq,.slice A m c] 53)).alloc (.cells (u8v p0).toArray 5)=w1 at hF1 hB1 hb1⊢;obtain⟨g,hg⟩:∃ g,g=w.heap.size+1:=⟨_,rfl⟩;rw[←hg]at hB1⊢;obtain⟨gb,hgb⟩:∃ gb,gb=w.heap.size:=⟨_,rfl⟩;rw[←hgb]at hF1 hb1⊢
 have hlt:gb<g:=by omega
 have hne:¬ gb=g:=by omega
 have hne':¬ g=gb:=by omega
 have HGB:=hide hgb;clear hb0 hF0 hg1 hg hgb
 have hlen:p0.length=n:=by rw[HP.out];simp
 have HLEN:=hide hlen;have ex:∀ i,i<n→∃ u,w1.cell? ⟨g,i,none⟩=some u:=fun i hi=>⟨_,hB1.at_ (bytes_at p0 i (by rw[hlen];exact hi))⟩;obtain⟨u0,hu0⟩:=ex 0 (by omega);obtain⟨u1,hu1⟩:=ex 1 (by omega);obtain⟨u2,hu2⟩:=ex (n-1) (by omega);have f0:=hB1.free 0;have f1:=hB1.free 1;have f2:=hB1.free (n-1);have q0:=hF1.at_ (i:=0) (u:=.int .i64 k) rfl
 have hn1:¬ n-1=0:=by omega
 have hn2:¬ n-1=1:=by omega
 have hn3:¬ 0=n-1:=by omega
 have hn4:¬ 1=n-1:=by omega
 clear ex hlen
 go_region
 have hB2:=(((hB1.put 0 (.int .u8 165)).put 1 (.int .u8 k)).put (n-1) (.int .u8 90)).drew;have hF2:=(((hF1.far (p:=⟨g,0,none⟩) hne (.int .u8 165)).far (p:=⟨g,1,none⟩) hne (.int .u8 k)).far (p:=⟨g,n-1,none⟩) hne (.int .u8 90)).drew;have hb2:=(((hb1.setCell (p:=⟨g,0,none⟩) (Nat.le_of_lt hlt) (.int .u8 165)).setCell (p:=⟨g,1,none⟩) (Nat.le_of_lt hlt) (.int .u8 k)).setCell (p:=⟨g,n-1,none⟩) (Nat.le_of_lt hlt) (.int .u8 90)).drew;rw[HP.out,blank_cells n k (by omega) (by omega)]at hB2;generalize (((w1.setCell ⟨g,0,none⟩ (.int .u8 165)).setCell ⟨g,1,none⟩ (.int .u8 k)).setCell ⟨g,n-1,none⟩ (.int .u8 90)).drew=w2 at hB2 hF2 hb2⊢
 have hl2:(eQ n k.toNat).length=n:=by simp[eQ]
 obtain⟨p2,hp2⟩:∃ p2,p2=eQ n k.toNat:=⟨_,rfl⟩;rw[←hp2]at hB2 hl2;have HP2:=hide hp2;have HL2:=hide hl2;clear hu0 hu1 hu2 f0 f1 f2 q0 hB1 hF1 hb1 hp2 hl2 hn1 hn2 hn3 hn4
 have z1:(6:Int)≤(n:Int):=by omega
 have z2:(14:Int)≤(n:Int):=by omega
 have z3:(16:Int)≤(n:Int):=by omega
 have z4:(20:Int)≤(n:Int):=by omega
 have x1:IntKind.u64.wrap lba=lba:=by rw[IntKind.wrap_u64];omega
 have x2:IntKind.u64.wrap seq=seq:=by rw[IntKind.wrap_u64];omega
 have x3:IntKind.u64.wrap (m:Int)=(m:Int):=by rw[IntKind.wrap_u64];omega
 have y1:¬ n=2:=by omega
 have y2:¬ n=6:=by omega
 have y3:¬ n=14:=by omega
 have y4:¬ n=16:=by omega
 have y5:¬ n=20:=by omega
 have q2:=hF2.at_ (i:=1) (u:=.int .i64 lba) rfl
 go_wp2_with fail
 go_region_held3 (fun w'=>w'.cell? ⟨gb,1,none⟩=some (.int .i64 lba))
  (first|exact hF2.drew.at_ (i:=1) (u:=.int .i64 lba) rfl|exact hF3.at_ (i:=1) (u:=.int .i64 lba) rfl)
  (first
   |(go_at_call 37
     with_reducible refine(put_int g 2 4 _ p2 lba _ (by exact hB2.drew) (by rw[HL2.out];omega) (by omega) hl0).mono ?_
     rintro e w3 ⟨rfl,hB3,hg3⟩
     have hF3:=hF2.drew.grown hg3 (fun e=>hne (Option.some.inj e))))
 have hb3:=hb2.drew.grown hg3 (Nat.le_trans (Nat.le_of_lt hF2.lt) (Nat.le_refl _)) (fun j hj=>by injection hj with hj;rw[←hj];exact Nat.le_of_lt hlt);obtain⟨p3,hp3⟩:∃ p3,p3=splL p2 2 (lowB (lba).toNat 4):=⟨_,rfl⟩;have HL3:=hide (show p3.length=n by rw[hp3,fQ _ _ _ (by rw[af,HL2.out];omega),HL2.out]);rw[←hp3]at hB3;have HP3:=hide hp3;clear hp3 hg3 hB2 hF2 hb2 q2;have q3:=hF3.at_ (i:=2) (u:=.int .i64 seq) rfl
 go_wp2_with fail
 go_region_held3 (fun w'=>w'.cell? ⟨gb,2,none⟩=some (.int .i64 seq))
  (first|exact hF3.drew.at_ (i:=2) (u:=.int .i64 seq) rfl|exact hF4.at_ (i:=2) (u:=.int .i64 seq) rfl)
  (first
   |(go_at_call 37
     with_reducible refine(put_int g 6 8 _ p3 seq _ (by exact hB3.drew) (by rw[HL3.out];omega) (by omega) hs0).mono ?_
     rintro e w4 ⟨rfl,hB4,hg4⟩
     have hF4:=hF3.drew.grown hg4 (fun e=>hne (Option.some.inj e))))
 have hb4:=hb3.drew.grown hg4 (Nat.le_trans (Nat.le_of_lt hF3.lt) (Nat.le_refl _)) (fun j hj=>by injection hj with hj;rw[←hj];exact Nat.le_of_lt hlt);obtain⟨p4,hp4⟩:∃ p4,p4=splL p3 6 (lowB (seq).toNat 8):=⟨_,rfl⟩;have HL4:=hide (show p4.length=n by rw[hp4,fQ _ _ _ (by rw[af,HL3.out];omega),HL3.out]);rw[←hp4]at hB4;have HP4:=hide hp4;clear hp4 hg4 hB3 hF3 hb3 q3;have q4:=hF4.at_ (i:=3) (u:=.slice A m c) rfl
 go_wp2_with fail
 go_region_held3 (fun w'=>w'.cell? ⟨gb,3,none⟩=some (.slice A m c))
  (first|exact hF4.drew.at_ (i:=3) (u:=.slice A m c) rfl|exact hF5.at_ (i:=3) (u:=.slice A m c) rfl)
  (first
   |(go_at_call 37
     with_reducible refine(put_int g 14 2 _ p4 (m:Int) _ (by exact hB4.drew) (by rw[HL4.out];omega) (by omega) (by omega)).mono ?_
     rintro e w5 ⟨rfl,hB5,hg5⟩
     have hF5:=hF4.drew.grown hg5 (fun e=>hne (Option.some.inj e))))
 have hb5:=hb4.drew.grown hg5 (Nat.le_trans (Nat.le_of_lt hF4.lt) (Nat.le_refl _)) (fun j hj=>by injection hj with hj;rw[←hj];exact Nat.le_of_lt hlt);obtain⟨p5,hp5⟩:∃ p5,p5=splL p4 14 (lowB ((m:Int)).toNat 2):=⟨_,rfl⟩;have HL5:=hide (show p5.length=n by rw[hp5,fQ _ _ _ (by rw[af,HL4.out];omega),HL4.out]);rw[←hp5]at hB5;have HP5:=hide hp5;clear hp5 hg5 hB4 hF4 hb4 q4;have q5:=hF5.at_ (i:=3) (u:=.slice A m c) rfl;have hr5:Rd w5 A (u8v d):=hr.below (by rw[←HGB.out];exact hb5)
 have hmin:(u8v d).length=Nat.min m (n-20):=by rw[aC,←HM.out];exact(Nat.min_eq_left (by omega)).symm
 have HMIN:=hide hmin;clear hmin
 go_wp2_with fail
 go_region_held3 (fun w'=>w'.cell? ⟨gb,3,none⟩=some (.slice A m c))
  (first|exact hF5.drew.at_ (i:=3) (u:=.slice A m c) rfl|exact hF6.at_ (i:=3) (u:=.slice A m c) rfl)
  (first
   |(refine step_copy_splice rfl (.tmp 85) (.tmp 87) 25 25 rfl 5 Tryz.underlying25 u8_size (some ⟨g,20,none⟩) A (n-20) (n-20) m c rfl rfl g 20 (u8v p5) 5 ?_ (u8v d) HMIN.out ?_ ?_ (u8v_one d) g w5.drew (Below.refl _ _) (Nat.le_refl _) ?_
     ·exact hB5.drew
     ·intro hpos;exact⟨rfl,rd_src hr5.drew hpos⟩
     ·rw[aC,aC,HL5.out,←HM.out];omega
     intro w6 HB6 hb6
     have hF6:=hF5.drew.below hb6 hlt))
 have hB6:Bk w6 g 5 (u8v (splL p5 20 d)).toArray:=by rw[←splice_bytes];exact HB6.out
 have hb6':Below gb w w6:=hb5.drew.trans (hb6.mono (Nat.le_of_lt hlt));obtain⟨p6,hp6⟩:∃ p6,p6=splL p5 20 d:=⟨_,rfl⟩;have HL6:=hide (show p6.length=n by rw[hp6,fQ _ _ _ (by rw[←HM.out,HL5.out];omega),HL5.out]);rw[←hp6]at hB6;have HP6:=hide hp6;clear hp6 HB6 hb6 hB5 hF5 hb5 q5 hr5;obtain⟨C,hC⟩:∃ C,C=crc p6:=⟨_,rfl⟩;have hCl:=C.isLt
 have x4:IntKind.u64.wrap (C.toNat:Int)=(C.toNat:Int):=by rw[IntKind.wrap_u64];omega
 have HC:=hide hC;have H6:=hide (HL6.out).symm;clear hC
 go_wp2_with fail
 go_region_with (first
  |(go_at_call 24
    with_reducible refine(crc_any (some ⟨g,0,none⟩) p6 n n _ H6.out (by omega) (by exact(rd_bk hB6).drew)).mono ?_
    rintro e w' ⟨rfl,rfl⟩
    rw[←HC.out])
  |(go_at_call 37
    with_reducible refine(put_int g 16 4 _ p6 (C.toNat:Int) _ (by exact hB6.drew) (by rw[HL6.out];omega) (by omega) (by omega)).mono ?_
    rintro e w7 ⟨rfl,hB7,hg7⟩))
 have hb7:=hb6'.drew.grown hg7 (Nat.le_trans (Nat.le_of_lt (Nat.lt_trans hlt hB6.lt)) (Nat.le_refl _)) (fun j hj=>by injection hj with hj;rw[←hj];exact Nat.le_of_lt hlt)
 go_wp2_with fail
 go_ret2
 have hfin:splL p6 16 (lowB C.toNat 4)=pack n k.toNat lba.toNat seq.toNat d:=by
  have hb:=built n k.toNat lba.toNat seq.toNat d (lowB C.toNat 4) (by rw[←HM.out];omega) h24 (af _ _)
  have e6:p6=splL (splL (splL (splL (eQ n k.toNat) 2 (lowB lba.toNat 4)) 6 (lowB seq.toNat 8)) 14 (lowB d.length 2)) 20 d:=by
   rw[HP6.out,HP5.out,HP4.out,HP3.out,HP2.out,Int.toNat_natCast,HM.out]
  rw[←e6]at hb;unfold pack;rw[←hb.2,←HC.out,hb.1]
 have hB8:Bk w7 g 5 (u8v (pack n k.toNat lba.toNat seq.toNat d)).toArray:=by rw[←hfin];exact hB7
 have hpl:=pack_length n k.toNat lba.toNat seq.toNat d (by rw[←HM.out];omega);refine⟨_,rfl,?_,by rw[←HGB.out];exact hb7⟩;have ho:=own_of_bk (base:=w.heap.size) (n:=n) (cap:=n) hB8 (by rw[←HGB.out];exact Nat.le_of_lt hlt) (Nat.le_refl _) (by simp only[maxLen];omega) (by simp[u8v,hpl]);rwa[List.take_of_length_le (by simp[u8v,hpl])]at ho
def Fits(n m k lba seq:Int):Prop:=24≤n∧n≤4096∧1≤k∧k≤3∧0≤lba∧lba≤4294967295∧0≤seq∧seq≤4611686018427387904
set_option maxRecDepth 100000 in
set_option maxHeartbeats 2000000 in
theorem pack_range(n k lba seq:Int)(A:Option Addr)(m c:Nat)(w:World)(h1:-9223372036854775808≤n)(h2:n≤9223372036854775807)(h:¬ Fits n m k lba seq) :
 Calls Tryz.prog 20 #[.int .i64 n,frV k lba seq A m c] w fun e w'=>e=.returned (.tuple #[.slice none 0 0,.iface 38 (.int .i64 1)])∧Below w.heap.size w w':=by
 have hb0:Below w.heap.size w (w.alloc (.cells #[.int .i64 k,.int .i64 lba,.int .i64 seq,.slice A m c] 53)):=(Below.refl _ _).alloc (Nat.le_refl _) _;unfold frV
 have ho:n<24∨(24≤n∧4096<n)∨(24≤n∧n≤4096∧k<1)∨(24≤n∧n≤4096∧1≤k∧3<k)∨(24≤n∧n≤4096∧1≤k∧k≤3∧lba<0)∨(24≤n∧n≤4096∧1≤k∧k≤3∧0≤lba∧4294967296≤lba) ∨
  (24≤n∧n≤4096∧1≤k∧k≤3∧0≤lba∧lba<4294967296∧seq<0)∨(24≤n∧n≤4096∧1≤k∧k≤3∧0≤lba∧lba<4294967296∧0≤seq∧4611686018427387904<seq):=by
  unfold Fits at h;omega
 clear h;rcases ho with o|⟨o1,o⟩|⟨o1,o2,o⟩|⟨o1,o2,o3,o⟩|⟨o1,o2,o3,o4,o⟩|⟨o1,o2,o3,o4,o5,o⟩|⟨o1,o2,o3,o4,o5,o6,o⟩|⟨o1,o2,o3,o4,o5,o6,o7,o⟩
 all_goals
  go_enter Tryz.func20,Tryz.ntmps20
  go_wp2_with fail
  go_ret2
  exact⟨rfl,hb0⟩
set_option maxRecDepth 100000 in
set_option maxHeartbeats 2000000 in
theorem pack_full(n k lba seq:Int)(A:Option Addr)(m c:Nat)(w:World)(h:Fits n m k lba seq)(hf:n-21<m) :
 Calls Tryz.prog 20 #[.int .i64 n,frV k lba seq A m c] w fun e w'=>e=.returned (.tuple #[.slice none 0 0,.iface 38 (.int .i64 3)])∧Below w.heap.size w w':=by
 have hb0:Below w.heap.size w (w.alloc (.cells #[.int .i64 k,.int .i64 lba,.int .i64 seq,.slice A m c] 53)):=(Below.refl _ _).alloc (Nat.le_refl _) _;unfold frV;obtain⟨o1,o2,o3,o4,o5,o6,o7,o8⟩:=h
 go_enter Tryz.func20,Tryz.ntmps20
 go_wp2_with fail
 go_ret2
 exact⟨rfl,hb0⟩
end PackW
namespace FrameW
open RowKit PutW CrcW Fram Crc PackW
theorem pack_bad(n k lba seq:Int)(A:Option Addr)(m c:Nat)(w:World)(h1:-9223372036854775808≤n)(h2:n≤9223372036854775807)(h:¬ (Fits n m k lba seq∧(m:Int)≤n-21)) :
 Calls Tryz.prog 20 #[.int .i64 n,frV k lba seq A m c] w fun e w'=>∃ q:Int,e=.returned (.tuple #[.slice none 0 0,.iface 38 (.int .i64 q)])∧Below w.heap.size w w':=by
 by_cases hf:Fits n m k lba seq
 ·exact(pack_full n k lba seq A m c w hf (Int.not_le.1 fun hle=>h ⟨hf,hle⟩)).mono fun e w' ⟨a,b⟩=>⟨3,a,b⟩
 ·exact(pack_range n k lba seq A m c w h1 h2 hf).mono fun e w' ⟨a,b⟩=>⟨1,a,b⟩
end FrameW
namespace ApartW
open RowKit PutW CrcW Fram Crc PackW FrameW
attribute [local irreducible] pack
end ApartW
namespace OpenW
open RowKit PutW CrcW Fram Crc PackW FrameW GetW ApartW
def gI:Value:=frV 0 0 0 none 0 0
attribute [local irreducible] pack
def w0(w:World):World:=(w.alloc (.cells #[.int .i64 0,.int .i64 0,.int .i64 0,.slice none 0 0] 53)).alloc (.cells #[.int .u8 255] 5)
theorem w0_size(w:World):(w0 w).heap.size=w.heap.size+2:=by simp[w0]
theorem jT(w:World):Below w.heap.size w (w0 w):=((Below.refl _ _).alloc (Nat.le_refl _) _).alloc (by simp) _
theorem w0_res(w:World):Bk (w0 w) w.heap.size 53 #[.int .i64 0,.int .i64 0,.int .i64 0,.slice none 0 0]:=(Bk.new _ _ _).alloc _
theorem w0_ff(w:World):(w0 w).cell? ⟨w.heap.size+1,0,none⟩=some (.int .u8 255):=by
 have h:=Bk.new (w.alloc (.cells #[.int .i64 0,.int .i64 0,.int .i64 0,.slice none 0 0] 53)) 5 #[.int .u8 255]
 have hs:(w.alloc (.cells #[.int .i64 0,.int .i64 0,.int .i64 0,.slice none 0 0] 53)).heap.size=w.heap.size+1:=by simp
 rw[hs]at h;exact h.at_ rfl
theorem iw(w:World)(g:Nat)(a:Act)(k1 l1 s1:Int)(B:Option Addr)(m c:Nat)(st:Int)(Q:Ending→World→Prop)(h2:a.tmps[2]?.getD undef=.pointer (some ⟨g,0,none⟩))(h3:a.tmps[3]?.getD undef=.int .i64 st)(hd:a.defers=[])
 (hB:Bk w g 53 #[.int .i64 k1,.int .i64 l1,.int .i64 s1,.slice B m c]) (hq:Q (.returned (.tuple #[frV k1 l1 s1 B m c,.int .i64 st])) w):bodyPost Tryz.prog Tryz.f51 Q .ret a w:=by
 have c0:=hB.at_ (i:=0) (u:=.int .i64 k1) rfl;have c1:=hB.at_ (i:=1) (u:=.int .i64 l1) rfl;have c2:=hB.at_ (i:=2) (u:=.int .i64 s1) rfl;have c3:=hB.at_ (i:=3) (u:=.slice B m c) rfl;refine bodyPost_ret (v:=.tuple #[frV k1 l1 s1 B m c,.int .i64 st]) ?_ hd hq;unfold frV;simp[results,Tryz.results51,go_sem,c0,c1,c2,c3,h2,h3]
set_option maxRecDepth 100000 in
set_option maxHeartbeats 2000000 in
theorem open_erased(A:Option Addr)(l:List UInt8)(n c:Nat)(w:World)(hn:n=l.length)(h0:0<n)(hmax:n≤9223372036854775807)(hr:Rd w A (u8v l))(hf:l.count 255=n) :
 Calls Tryz.prog 51 #[.slice A n c] w fun e w'=>e=.returned (.tuple #[gI,.int .i64 1])∧Below w.heap.size w w':=by
 have hg0:((n:Int)>0):=by omega
 have hd0:decide ((n:Int)>0)=true:=by simp;omega
 have HN:=hide hn;have HF:=hide hf;have hb0:=jT w;have hR:=w0_res w;have hff:=w0_ff w;clear hn hf;unfold gI frV
 go_enter Tryz.func51,Tryz.ntmps51
 go_wp2_with fail
 change Calls Tryz.prog 80 _ (w0 w) _
 generalize w0 w=w0 at hb0 hR hff⊢;obtain⟨g,hg⟩:∃ g,g=w.heap.size:=⟨_,rfl⟩;have hrr:=hr.below hb0;rw[←hg]at hR hb0 hff⊢;have hlt:=hR.lt;have HG:=hide hg;clear hg hr;refine(count_any A l n c _ 1 w0 HN.out h0 hrr hff).mono ?_;rintro e w1 ⟨rfl,rfl⟩;rw[HF.out];have q0:=hR.at_ (i:=0) (u:=.int .i64 0) rfl;have q1:=hR.at_ (i:=1) (u:=.int .i64 0) rfl;have q2:=hR.at_ (i:=2) (u:=.int .i64 0) rfl;have q3:=hR.at_ (i:=3) (u:=.slice none 0 0) rfl;have f0:=hR.free 0;have f1:=hR.free 1;have f2:=hR.free 2;have f3:=hR.free 3
 go_wp2_with fail
 refine iw _ g _ 0 0 0 none 0 0 1 _ rfl rfl rfl ((((hR.put 0 (.int .i64 0)).put 1 (.int .i64 0)).put 2 (.int .i64 0)).put 3 (.slice none 0 0)) ⟨rfl,?_⟩;rw[←HG.out];exact(((hb0.setCell (p:=⟨g,0,none⟩) (Nat.le_refl _) (.int .i64 0)).setCell (p:=⟨g,1,none⟩) (Nat.le_refl _) (.int .i64 0)).setCell (p:=⟨g,2,none⟩) (Nat.le_refl _) (.int .i64 0)).setCell (p:=⟨g,3,none⟩) (Nat.le_refl _) (.slice none 0 0)
theorem w1_res(w:World):Bk (w.alloc (.cells #[.int .i64 0,.int .i64 0,.int .i64 0,.slice none 0 0] 53)) w.heap.size 53 #[.int .i64 0,.int .i64 0,.int .i64 0,.slice none 0 0]:=Bk.new _ _ _
set_option maxRecDepth 100000 in
set_option maxHeartbeats 2000000 in
theorem open_none(A:Option Addr)(c:Nat)(w:World) :
 Calls Tryz.prog 51 #[.slice A 0 c] w fun e w'=>e=.returned (.tuple #[gI,.int .i64 3])∧Below w.heap.size w w':=by
 have hb0:Below w.heap.size w (w.alloc (.cells #[.int .i64 0,.int .i64 0,.int .i64 0,.slice none 0 0] 53)):=(Below.refl _ _).alloc (Nat.le_refl _) _;have hR:=w1_res w;have q0:=hR.at_ (i:=0) (u:=.int .i64 0) rfl;have q1:=hR.at_ (i:=1) (u:=.int .i64 0) rfl;have q2:=hR.at_ (i:=2) (u:=.int .i64 0) rfl;have q3:=hR.at_ (i:=3) (u:=.slice none 0 0) rfl;have f0:=hR.free 0;have f1:=hR.free 1;have f2:=hR.free 2;have f3:=hR.free 3;unfold gI frV
 go_enter Tryz.func51,Tryz.ntmps51
 go_wp2_with fail
 exact iw _ w.heap.size _ 0 0 0 none 0 0 3 _ rfl rfl rfl hR ⟨rfl,hb0⟩
set_option maxRecDepth 100000 in
set_option maxHeartbeats 2000000 in
theorem open_form(A:Option Addr)(l:List UInt8)(n c:Nat)(w:World)(hn:n=l.length)(h0:0<n)(hmax:n≤9223372036854775807)(hr:Rd w A (u8v l))(hf:l.count 255≠n)(hbad:n<24∨4096<n∨l.getD 0 0≠165∨l.getD (n-1) 0≠90) :
 Calls Tryz.prog 51 #[.slice A n c] w fun e w'=>e=.returned (.tuple #[gI,.int .i64 3])∧Below w.heap.size w w':=by
 have hg0:((n:Int)>0):=by omega
 have hd0:decide ((n:Int)>0)=true:=by simp;omega
 have hcf:((l.count 255:Int)==(n:Int))=false:=by simp;omega
 generalize hq:((l.count 255:Nat):Int)=q at hcf;obtain⟨b,o,rfl,_,hcell⟩:=hr.form (by rw[aC];omega);have hrr:=hr.below (jT w)
 have hc0:(w0 w).cell? ⟨b,o,none⟩=some (.int .u8 ((l.getD 0 0).toNat:Int)):=by
  have:=hrr.cells ⟨b,o,none⟩ rfl 0 _ (kH l 0 (by omega));rw[Addr.add_lit]at this;rw[show l.getD 0 0=l[0]'(by omega) from by simp[List.getD,show 0<l.length by omega]];exact this
 have hcn:(w0 w).cell? ⟨b,o+(n-1),none⟩=some (.int .u8 ((l.getD (n-1) 0).toNat:Int)):=by
  have:=hrr.cells ⟨b,o,none⟩ rfl (n-1) _ (kH l (n-1) (by omega));rw[Addr.add_lit]at this;rw[show l.getD (n-1) 0=l[n-1]'(by omega) from by simp[List.getD,show n-1<l.length by omega]];exact this
 have HB:Hid (n<24∨(24≤n∧4096<n)∨(24≤n∧n≤4096∧(((l.getD 0 0).toNat:Int) != 165)=true)∨(24≤n∧n≤4096∧(((l.getD 0 0).toNat:Int) != 165)=false∧(((l.getD (n-1) 0).toNat:Int) != 90)=true)):=by
  refine hide ?_;by_cases h1:n<24
  ·exact .inl h1
  by_cases h2:4096<n
  ·exact .inr (.inl ⟨by omega,h2⟩)
  by_cases h3:l.getD 0 0=165
  ·refine .inr (.inr (.inr ⟨by omega,by omega,by rw[h3];rfl,?_⟩))
   have h4:l.getD (n-1) 0≠90:=by
    rcases hbad with h|h|h|h
    ·exact absurd h h1
    ·exact absurd h h2
    ·exact absurd h3 h
    ·exact h
   rw[bne_iff_ne];intro e;exact h4 (UInt8.toNat_inj.1 (by have e2:((90:UInt8)).toNat=90:=rfl;omega))
  ·refine .inr (.inr (.inl ⟨by omega,by omega,?_⟩));rw[bne_iff_ne];intro e;exact h3 (UInt8.toNat_inj.1 (by have e2:((165:UInt8)).toNat=165:=rfl;omega))
 have HN:=hide hn;have HQ:=hide hq;have hb0:=jT w;have hR:=w0_res w;have hff:=w0_ff w;clear hn hq hf hbad;generalize ((l.getD 0 0).toNat:Int)=x at hc0 HB;generalize ((l.getD (n-1) 0).toNat:Int)=y at hcn HB;unfold gI frV
 go_enter Tryz.func51,Tryz.ntmps51
 go_wp2_with fail
 change Calls Tryz.prog 80 _ (w0 w) _
 generalize w0 w=w0 at hb0 hR hff hrr hc0 hcn⊢;obtain⟨g,hg⟩:∃ g,g=w.heap.size:=⟨_,rfl⟩;rw[←hg]at hR hb0 hff⊢;have hlt:=hR.lt;have HG:=hide hg;clear hg hr;refine(count_any _ l n c _ 1 w0 HN.out h0 hrr hff).mono ?_;rintro e w1 ⟨rfl,rfl⟩;rw[HQ.out];have q0:=hR.at_ (i:=0) (u:=.int .i64 0) rfl;have q1:=hR.at_ (i:=1) (u:=.int .i64 0) rfl;have q2:=hR.at_ (i:=2) (u:=.int .i64 0) rfl;have q3:=hR.at_ (i:=3) (u:=.slice none 0 0) rfl;have f0:=hR.free 0;have f1:=hR.free 1;have f2:=hR.free 2;have f3:=hR.free 3;rcases HB.out with o|⟨o1,o⟩|⟨o1,o2,o⟩|⟨o1,o2,o3,o⟩
 all_goals
  clear HB
  go_wp2_with fail
  refine iw _ g _ 0 0 0 none 0 0 3 _ rfl rfl rfl ((((hR.put 0 (.int .i64 0)).put 1 (.int .i64 0)).put 2 (.int .i64 0)).put 3 (.slice none 0 0)) ⟨rfl,?_⟩;rw[←HG.out];exact(((hb0.setCell (p:=⟨g,0,none⟩) (Nat.le_refl _) (.int .i64 0)).setCell (p:=⟨g,1,none⟩) (Nat.le_refl _) (.int .i64 0)).setCell (p:=⟨g,2,none⟩) (Nat.le_refl _) (.int .i64 0)).setCell (p:=⟨g,3,none⟩) (Nat.le_refl _) (.slice none 0 0)
end OpenW
namespace OpenW
open RowKit PutW CrcW Fram Crc PackW FrameW GetW ApartW
def kindOf(l:List UInt8):Int:=((l.getD 1 0).toNat:Int)
def lbaOf(l:List UInt8):Nat:=leN ((l.drop 2).take 4)
def seqOf(l:List UInt8):Nat:=leN ((l.drop 6).take 8)
def seqI(l:List UInt8):Int:=IntKind.i64.wrap (seqOf l:Int)
def aJ(l:List UInt8):Nat:=leN ((l.drop 14).take 2)
def dataOf(l:List UInt8):List UInt8:=(l.drop 20).take (aJ l)
def Good(l:List UInt8)(n:Nat):Prop:=aJ l+21≤n∧Fits n (aJ l) (kindOf l) (lbaOf l) (seqI l)∧pack n (kindOf l).toNat (lbaOf l) (seqI l).toNat (dataOf l)=l
theorem rd_sub{w:World}{b o:Nat}{l:List UInt8}(h:Rd w (some ⟨b,o,none⟩) (u8v l))(i k:Nat):Rd w (some ⟨b,o+i,none⟩) (u8v ((l.drop i).take k)):=by
 rcases h with h|⟨b',o',he,hc⟩
 ·have hl:l=[]:=by
   have:=congrArg List.length h;rw[aC]at this;exact List.eq_nil_of_length_eq_zero (by simpa using this)
  subst hl;left;simp[u8v]
 ·injection he with he;injection he with hb ho;subst hb ho;refine .inr ⟨b,o+i,rfl,fun j u hu=>?_⟩;rw[Nat.add_assoc];refine hc (i+j) u ?_;unfold u8v at hu⊢;rw[List.getElem?_map,List.getElem?_take]at hu;rw[List.getElem?_map];split at hu
  ·rwa[List.getElem?_drop]at hu
  ·cases hu
theorem lbaOf_lt(l:List UInt8):lbaOf l<4294967296:=by
 have h:=lh ((l.drop 2).take 4)
 have h2:((l.drop 2).take 4).length≤4:=by simp;omega
 have h3:(256:Nat)^((l.drop 2).take 4).length≤256^4:=Nat.pow_le_pow_right (by omega) h2;unfold lbaOf;omega
theorem longOf_lt(l:List UInt8):aJ l<65536:=by
 have h:=lh ((l.drop 14).take 2)
 have h2:((l.drop 14).take 2).length≤2:=by simp;omega
 have h3:(256:Nat)^((l.drop 14).take 2).length≤256^2:=Nat.pow_le_pow_right (by omega) h2;unfold aJ;omega
theorem get_lba(l:List UInt8)(b o c:Nat)(w:World)(h:24≤l.length)(hr:Rd w (some ⟨b,o,none⟩) (u8v l)) :
 Calls Tryz.prog 81 #[.slice (some ⟨b,o+2,none⟩) 4 c] w fun e w'=>e=.returned (.int .u64 (lbaOf l))∧w=w' :=
 get_any _ ((l.drop 2).take 4) 4 c w (by simp;omega) (by simp;omega) (by simp;omega) (rd_sub hr 2 4)
theorem get_seq(l:List UInt8)(b o c:Nat)(w:World)(h:24≤l.length)(hr:Rd w (some ⟨b,o,none⟩) (u8v l)) :
 Calls Tryz.prog 81 #[.slice (some ⟨b,o+6,none⟩) 8 c] w fun e w'=>e=.returned (.int .u64 (seqOf l))∧w=w' :=
 get_any _ ((l.drop 6).take 8) 8 c w (by simp;omega) (by simp;omega) (by simp;omega) (rd_sub hr 6 8)
theorem get_long(l:List UInt8)(b o c:Nat)(w:World)(h:24≤l.length)(hr:Rd w (some ⟨b,o,none⟩) (u8v l)) :
 Calls Tryz.prog 81 #[.slice (some ⟨b,o+14,none⟩) 2 c] w fun e w'=>e=.returned (.int .u64 (aJ l))∧w=w' :=
 get_any _ ((l.drop 14).take 2) 2 c w (by simp;omega) (by simp;omega) (by simp;omega) (rd_sub hr 14 2)
theorem rd_data{l:List UInt8}{b o:Nat}{w:World}(hr:Rd w (some ⟨b,o,none⟩) (u8v l)):Rd w (some ⟨b,o+20,none⟩) (u8v (dataOf l)):=rd_sub hr 20 (aJ l)
theorem data_length{l:List UInt8}(h:aJ l+20≤l.length):aJ l=(dataOf l).length:=by
 unfold dataOf;simp;omega
attribute [local irreducible] pack kindOf lbaOf seqOf seqI aJ dataOf
set_option maxRecDepth 100000 in
set_option maxHeartbeats 2000000 in
theorem open_main(A:Option Addr)(l:List UInt8)(n c:Nat)(w:World)(hn:n=l.length)(h24:24≤n)(hmax:n≤4096)(hnc:n≤c)(hcm:c≤9223372036854775807)(hr:Rd w A (u8v l))(hl0:l.getD 0 0=165)(hl1:l.getD (n-1) 0=90) :
 Calls Tryz.prog 51 #[.slice A n c] w fun e w'=>Below w.heap.size w w'∧((¬Good l n∧e=.returned (.tuple #[gI,.int .i64 3])) ∨
  (Good l n∧∃ B c',e=.returned (.tuple #[frV (kindOf l) (lbaOf l) (seqI l) B (aJ l) c',.int .i64 2])∧aJ l≤c'∧Rd w' B (u8v (dataOf l)))):=by
 have hg0:((n:Int)>0):=by omega
 have hd0:decide ((n:Int)>0)=true:=by simp;omega
 have hf:l.count 255≠n:=by
  intro h;rw[hn]at h;have h2:=List.count_eq_length.1 h (l.getD 0 0) (by rw[show l.getD 0 0=l[0]'(by omega) from by simp[List.getD,show 0<l.length by omega]];exact List.getElem_mem _);rw[hl0]at h2;exact absurd h2 (by decide)
 have hcf:((l.count 255:Int)==(n:Int))=false:=by simp;omega
 generalize hq:((l.count 255:Nat):Int)=q at hcf;obtain⟨b,o,rfl,hbw,hcell⟩:=hr.form (by rw[aC];omega);have hrr:=hr.below (jT w)
 have hc0:(w0 w).cell? ⟨b,o,none⟩=some (.int .u8 165):=by
  have:=hrr.cells ⟨b,o,none⟩ rfl 0 _ (kH l 0 (by omega));rw[Addr.add_lit]at this;rw[show l[0]'(by omega)=l.getD 0 0 from by simp[List.getD,show 0<l.length by omega],hl0]at this;exact this
 have hcn:(w0 w).cell? ⟨b,o+(n-1),none⟩=some (.int .u8 90):=by
  have:=hrr.cells ⟨b,o,none⟩ rfl (n-1) _ (kH l (n-1) (by omega));rw[Addr.add_lit]at this;rw[show l[n-1]'(by omega)=l.getD (n-1) 0 from by simp[List.getD,show n-1<l.length by omega],hl1]at this;exact this
 have hc1:(w0 w).cell? ⟨b,o+1,none⟩=some (.int .u8 (kindOf l)):=by
  have:=hrr.cells ⟨b,o,none⟩ rfl 1 _ (kH l 1 (by omega));rw[Addr.add_lit]at this;rw[show l[1]'(by omega)=l.getD 1 0 from by simp[List.getD,show 1<l.length by omega]]at this;unfold kindOf;exact this
 have hk0:0≤kindOf l∧kindOf l≤255:=by
  unfold kindOf;have:=(l.getD 1 0).toNat_lt;omega
 have HN:=hide hn;have HQ:=hide hq;have hb0:=jT w;have hR:=w0_res w;have hff:=w0_ff w;have hsz:=w0_size w;clear hn hq hf hl0 hl1 hcell;unfold gI frV
 go_enter Tryz.func51,Tryz.ntmps51
 go_wp2_with fail
 change Calls Tryz.prog 80 _ (w0 w) _
 generalize w0 w=w0 at hb0 hR hff hrr hc0 hcn hc1 hsz⊢;obtain⟨g,hg⟩:∃ g,g=w.heap.size:=⟨_,rfl⟩;rw[←hg]at hR hb0 hff hbw hsz⊢;have hlt:=hR.lt;have HG:=hide hg;clear hg hr;refine(count_any _ l n c _ 1 w0 HN.out (by omega) hrr hff).mono ?_;rintro e w1 ⟨rfl,rfl⟩;rw[HQ.out]
 have hcI:(14:Int)≤(c:Int):=by omega
 have hcI2:(6:Int)≤(c:Int):=by omega
 have hcI3:(16:Int)≤(c:Int):=by omega
 have hcI4:(20:Int)≤(c:Int):=by omega
 have y1:¬ c=2:=by omega
 have y2:¬ c=6:=by omega
 have y3:¬ c=14:=by omega
 have y4:¬ c=16:=by omega
 have y5:¬ c=20:=by omega
 have hlb:=lbaOf_lt l;have hlo:=longOf_lt l
 have x1:IntKind.i64.wrap (lbaOf l:Int)=(lbaOf l:Int):=by rw[IntKind.wrap_i64];omega
 have x2:IntKind.i64.wrap (aJ l:Int)=(aJ l:Int):=by rw[IntKind.wrap_i64];omega
 have x3:IntKind.i64.wrap (seqOf l:Int)=seqI l:=by unfold seqI;rfl
 generalize hsq:((seqOf l:Nat):Int)=sq at x3;have HSQ:=hide hsq;clear hsq
 have hlen24:24≤l.length:=by rw[←HN.out];exact h24
 have HL24:=hide hlen24
 have HC1A:Hid (∀ob,(w1.alloc ob).cell? ⟨b,o+1,none⟩=some (.int .u8 (kindOf l))):=by
  refine hide fun ob=>?_;rw[World.cell?_of_block (w:=w1) (Below.heap_alloc w1 _ b (Nat.lt_trans hbw hlt))];exact hc1
 have hn1:(1:Int)<(n:Int):=by omega
 have x0:IntKind.i64.wrap (kindOf l)=kindOf l:=by rw[IntKind.wrap_i64];omega
 clear hlen24
 go_wp2_with fail
 go_cut [5] (fun v wx=>v=.pointer (some ⟨g+2,0,none⟩)∧wx=(w1.alloc (.cells #[.int .i64 (kindOf l),.int .i64 (lbaOf l),.int .i64 (seqI l),.slice none 0 0] 53)).drew)
 case first =>
  go_region_held3 (fun w'=>w'.cell? ⟨b,o+1,none⟩=some (.int .u8 (kindOf l)))
   (first|exact hc1|exact HC1A.out _)
   (first
    |(go_at_call 81
      with_reducible refine(get_lba l b o _ _ HL24.out (by first|exact hrr.drew|exact(hrr.alloc _).drew)).mono ?_
      rintro e w3 ⟨rfl,rfl⟩)
    |(go_at_call 81
      with_reducible refine(get_seq l b o _ _ HL24.out (by first|exact hrr.drew|exact(hrr.alloc _).drew)).mono ?_
      rintro e w3 ⟨rfl,rfl⟩
      rw[HSQ.out]))
  all_goals
   go_wp2_with fail
   go_meet
   exact⟨rfl,rfl⟩
 case rest =>
  obtain⟨rfl,rfl⟩:=hcut;have hF:=(Bk.new w1 53 #[.int .i64 (kindOf l),.int .i64 (lbaOf l),.int .i64 (seqI l),.slice none 0 0]).drew;have hR2:=(hR.alloc (.cells #[.int .i64 (kindOf l),.int .i64 (lbaOf l),.int .i64 (seqI l),.slice none 0 0] 53)).drew;have hb2:=(hb0.alloc (Nat.le_of_lt hlt) (.cells #[.int .i64 (kindOf l),.int .i64 (lbaOf l),.int .i64 (seqI l),.slice none 0 0] 53)).drew;have hr2:=(hrr.alloc (.cells #[.int .i64 (kindOf l),.int .i64 (lbaOf l),.int .i64 (seqI l),.slice none 0 0] 53)).drew;rw[hsz]at hF;clear hc0 hcn hc1 hff hb0 hR hrr HC1A hsz hlt;generalize (w1.alloc (.cells #[.int .i64 (kindOf l),.int .i64 (lbaOf l),.int .i64 (seqI l),.slice none 0 0] 53)).drew=w2 at hF hR2 hb2 hr2⊢;obtain⟨g2,hg2⟩:∃ g2,g2=g+2:=⟨_,rfl⟩;rw[←hg2]at hF⊢
  have hne:¬ g=g2:=by omega
  have hne':¬ g2=g:=by omega
  have hle:g≤g2:=by omega
  clear hg2;have hlt:=hR2.lt;have hlt2:=hF.lt;by_cases hL:aJ l+21≤n
  ·have hcl:(20:Int)+(aJ l:Int)≤(c:Int):=by omega
   have hll:((n:Int)-20-1<(aJ l:Int))=False:=by simp;omega
   have HDL:=hide (data_length (l:=l) (by rw[←HN.out];omega))
   go_wp2_with fail
   refine(get_long l b o _ _ HL24.out hr2).mono ?_;rintro e w3 ⟨rfl,rfl⟩
   go_wp2_with fail
   have hnb:aJ l≤140737488355328:=by omega
   refine(clone_any (some ⟨b,o+20,none⟩) (dataOf l) (aJ l) _ _ HDL.out hnb (rd_data hr2)).mono ?_;rintro e w3 ⟨B,c',rfl,hcc,hrB,hb3,hfar⟩;have hF3:=hF.below hb3 hlt2;have hR3:=hR2.below hb3 hlt;have hr3:=hr2.below hb3;have hb23:=hb2.trans (hb3.mono (Nat.le_of_lt hlt));have hrB4:=oH hrB (p:=⟨g2,3,none⟩) (.slice B (aJ l) c') (fun k o hk hx e=>by have:=hfar k o hk hx;simp at e;omega);have hr4:=oH hr3 (p:=⟨g2,3,none⟩) (.slice B (aJ l) c') (fun k o hk hx e=>by injection hk with hk;injection hk with hk;simp at e;omega)
   have HBG:Hid (∀k o,B=some ⟨k,o,none⟩→u8v (dataOf l)≠[]→k≠g):=hide fun k o hk hx e=>by have:=hfar k o hk hx;omega
   clear hF hR2 hr2 hb2 hlt hlt2 hfar;have hFq:=hF3.at_ (i:=3) (u:=.slice none 0 0) rfl;have hFf:=hF3.free 3;have d0:=hF3.at_ (i:=0) (u:=.int .i64 (kindOf l)) rfl;have d1:=hF3.at_ (i:=1) (u:=.int .i64 (lbaOf l)) rfl;have d2:=hF3.at_ (i:=2) (u:=.int .i64 (seqI l)) rfl;have hF4:=hF3.put 3 (.slice B (aJ l) c');have hR4:=hR3.far (p:=⟨g2,3,none⟩) hne (.slice B (aJ l) c');have hb4:=hb23.setCell (p:=⟨g2,3,none⟩) hle (.slice B (aJ l) c')
   go_wp2_with fail
   generalize w3.setCell ⟨g2,3,none⟩ (.slice B (aJ l) c')=w4 at hF4 hR4 hb4 hrB4 hr4⊢;have hlt:=hR4.lt;have hlt2:=hF4.lt;clear hFq hFf d0 d1 d2 hF3 hR3 hr3 hrB hb23 hb3;by_cases hfit:Fits n (aJ l) (kindOf l) (lbaOf l) (seqI l)
   ·have hfit':=hfit;obtain⟨o1,o2,o3,o4,o5,o6,o7,o8⟩:=hfit';refine(pack_ok n (kindOf l) (lbaOf l) (seqI l) B (dataOf l) (aJ l) c' _ h24 hmax o3 o4 o5 o6 o7 o8 HDL.out hL hrB4).mono ?_;rintro e w5 ⟨v,rfl,ho,hb5'⟩;have hF5:=hF4.below hb5' hlt2;have hR5:=hR4.below hb5' hlt;have hr5:=hr4.below hb5';have hrB5:=hrB4.below hb5';have hb5:=hb4.trans (hb5'.mono (Nat.le_of_lt hlt));obtain⟨C,e5,rfl,-,-,hrC,-,-⟩:=dL ho;have HPL:=hide (pack_length n (kindOf l).toNat (lbaOf l) (seqI l).toNat (dataOf l) (by rw[←HDL.out];omega)).symm;clear ho hF4 hR4 hr4 hrB4 hb4 hb5' hlt hlt2;have HFIT:=hide hfit;clear hfit;by_cases heq:pack n (kindOf l).toNat (lbaOf l) (seqI l).toNat (dataOf l)=l
    ·have HEQ:=hide heq;have HRES:=hide (show true=decide (pack n (kindOf l).toNat (lbaOf l) (seqI l).toNat (dataOf l)=l) from(decide_eq_true heq).symm);clear heq;have q0:=hR5.at_ (i:=0) (u:=.int .i64 0) rfl;have q1:=hR5.at_ (i:=1) (u:=.int .i64 0) rfl;have q2:=hR5.at_ (i:=2) (u:=.int .i64 0) rfl;have q3:=hR5.at_ (i:=3) (u:=.slice none 0 0) rfl;have f0:=hR5.free 0;have f1:=hR5.free 1;have f2:=hR5.free 2;have f3:=hR5.free 3;have d0:=hF5.at_ (i:=0) (u:=.int .i64 (kindOf l)) rfl;have d1:=hF5.at_ (i:=1) (u:=.int .i64 (lbaOf l)) rfl;have d2:=hF5.at_ (i:=2) (u:=.int .i64 (seqI l)) rfl;have d3:=hF5.at_ (i:=3) (u:=.slice B (aJ l) c') rfl
     go_wp2_with fail
     refine(equal_any C (some ⟨b,o,none⟩) _ l n n e5 c _ HPL.out HN.out hrC hr5 _ HRES.out).mono ?_;rintro e w6 ⟨rfl,rfl⟩
     go_wp2_with fail
     refine iw _ g _ (kindOf l) (lbaOf l) (seqI l) B (aJ l) c' 2 _ rfl rfl rfl ((((hR5.put 0 (.int .i64 (kindOf l))).put 1 (.int .i64 (lbaOf l))).put 2 (.int .i64 (seqI l))).put 3 (.slice B (aJ l) c')) ⟨?_,.inr ⟨⟨hL,HFIT.out,HEQ.out⟩,B,c',rfl,hcc,?_⟩⟩
     ·rw[←HG.out];exact(((hb5.setCell (p:=⟨g,0,none⟩) (Nat.le_refl _) (.int .i64 (kindOf l))).setCell (p:=⟨g,1,none⟩) (Nat.le_refl _) (.int .i64 (lbaOf l))).setCell (p:=⟨g,2,none⟩) (Nat.le_refl _) (.int .i64 (seqI l))).setCell (p:=⟨g,3,none⟩) (Nat.le_refl _) (.slice B (aJ l) c')
     ·exact oH (oH (oH (oH hrB5 (p:=⟨g,0,none⟩) (.int .i64 (kindOf l)) HBG.out) (p:=⟨g,1,none⟩) (.int .i64 (lbaOf l)) HBG.out) (p:=⟨g,2,none⟩) (.int .i64 (seqI l)) HBG.out) (p:=⟨g,3,none⟩) (.slice B (aJ l) c') HBG.out
    ·have HRES:=hide (show false=decide (pack n (kindOf l).toNat (lbaOf l) (seqI l).toNat (dataOf l)=l) from(decide_eq_false heq).symm);have HBAD:Hid (¬Good l n):=hide fun h=>heq h.2.2;clear heq;have q0:=hR5.at_ (i:=0) (u:=.int .i64 0) rfl;have q1:=hR5.at_ (i:=1) (u:=.int .i64 0) rfl;have q2:=hR5.at_ (i:=2) (u:=.int .i64 0) rfl;have q3:=hR5.at_ (i:=3) (u:=.slice none 0 0) rfl;have f0:=hR5.free 0;have f1:=hR5.free 1;have f2:=hR5.free 2;have f3:=hR5.free 3
     go_wp2_with fail
     refine(equal_any C (some ⟨b,o,none⟩) _ l n n e5 c _ HPL.out HN.out hrC hr5 _ HRES.out).mono ?_;rintro e w6 ⟨rfl,rfl⟩
     go_wp2_with fail
     refine iw _ g _ 0 0 0 none 0 0 3 _ rfl rfl rfl ((((hR5.put 0 (.int .i64 0)).put 1 (.int .i64 0)).put 2 (.int .i64 0)).put 3 (.slice none 0 0)) ⟨?_,.inl ⟨HBAD.out,rfl⟩⟩;rw[←HG.out];exact(((hb5.setCell (p:=⟨g,0,none⟩) (Nat.le_refl _) (.int .i64 0)).setCell (p:=⟨g,1,none⟩) (Nat.le_refl _) (.int .i64 0)).setCell (p:=⟨g,2,none⟩) (Nat.le_refl _) (.int .i64 0)).setCell (p:=⟨g,3,none⟩) (Nat.le_refl _) (.slice none 0 0)
   ·have HFIT:=hide hfit;have HBAD:Hid (¬Good l n):=hide fun h=>hfit h.2.1;clear hfit;refine(pack_bad n (kindOf l) (lbaOf l) (seqI l) B (aJ l) c' _ (by omega) (by omega) (fun h=>HFIT.out h.1)).mono ?_;rintro e w5 ⟨q5,rfl,hb5'⟩;have hR5:=hR4.below hb5' hlt;have hb5:=hb4.trans (hb5'.mono (Nat.le_of_lt hlt));clear hF4 hR4 hr4 hrB4 hb4 hb5' hlt hlt2;have q0:=hR5.at_ (i:=0) (u:=.int .i64 0) rfl;have q1:=hR5.at_ (i:=1) (u:=.int .i64 0) rfl;have q2:=hR5.at_ (i:=2) (u:=.int .i64 0) rfl;have q3:=hR5.at_ (i:=3) (u:=.slice none 0 0) rfl;have f0:=hR5.free 0;have f1:=hR5.free 1;have f2:=hR5.free 2;have f3:=hR5.free 3
    go_wp2_with fail
    refine iw _ g _ 0 0 0 none 0 0 3 _ rfl rfl rfl ((((hR5.put 0 (.int .i64 0)).put 1 (.int .i64 0)).put 2 (.int .i64 0)).put 3 (.slice none 0 0)) ⟨?_,.inl ⟨HBAD.out,rfl⟩⟩;rw[←HG.out];exact(((hb5.setCell (p:=⟨g,0,none⟩) (Nat.le_refl _) (.int .i64 0)).setCell (p:=⟨g,1,none⟩) (Nat.le_refl _) (.int .i64 0)).setCell (p:=⟨g,2,none⟩) (Nat.le_refl _) (.int .i64 0)).setCell (p:=⟨g,3,none⟩) (Nat.le_refl _) (.slice none 0 0)
  ·have hll:(n:Int)-20-1<(aJ l:Int):=by omega
   have q0:=hR2.at_ (i:=0) (u:=.int .i64 0) rfl;have q1:=hR2.at_ (i:=1) (u:=.int .i64 0) rfl;have q2:=hR2.at_ (i:=2) (u:=.int .i64 0) rfl;have q3:=hR2.at_ (i:=3) (u:=.slice none 0 0) rfl;have f0:=hR2.free 0;have f1:=hR2.free 1;have f2:=hR2.free 2;have f3:=hR2.free 3
   go_wp2_with fail
   refine(get_long l b o _ _ HL24.out hr2).mono ?_;rintro e w3 ⟨rfl,rfl⟩
   go_wp2_with fail
   refine iw _ g _ 0 0 0 none 0 0 3 _ rfl rfl rfl ((((hR2.put 0 (.int .i64 0)).put 1 (.int .i64 0)).put 2 (.int .i64 0)).put 3 (.slice none 0 0)) ⟨?_,.inl ⟨fun h=>hL h.1,rfl⟩⟩;rw[←HG.out];exact(((hb2.setCell (p:=⟨g,0,none⟩) (Nat.le_refl _) (.int .i64 0)).setCell (p:=⟨g,1,none⟩) (Nat.le_refl _) (.int .i64 0)).setCell (p:=⟨g,2,none⟩) (Nat.le_refl _) (.int .i64 0)).setCell (p:=⟨g,3,none⟩) (Nat.le_refl _) (.slice none 0 0)
end OpenW
