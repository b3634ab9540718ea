/- Texts of this seat,put together: PopPlain,Bits,Places,Word,PutPlain,CrcPlain,FramePlain,Shelf,Get. -/
import Derived.Test.YtlaipigilikmbaaGreatDoorMb1
import Derived.Test.YtlaipigilikmbaaGreatDoorChecked
import Derived.WalkLawsBesides
import Derived.Lib.BitFns
import Derived.Ground.SlbNamesProg
import Derived.Shelf.Bytes.SlCountOne
import Derived.Shelf.LaysM
import Derived.Ground.SlbCloneProg
import Derived.Shelf.Bytes.SlClone
import Derived.Shelf.Bytes.SlEqualAll
import Derived.Shelf.Bytes.Small
import Derived.Test.YtlaipigilikmbaaGreatDoorProg
namespace Go.Proofs.YtlaipigilikmbaaGreatDoor
noncomputable section
set_option linter.unusedVariables false
set_option linter.unusedSimpArgs false
namespace Pop
def popc:Nat→Nat→Nat
 |0,_=>0
 |n+1,x=>x%2+popc n (x / 2)
theorem lX(n x:Nat):popc n x≤n:=by
 induction n generalizing x with
 |zero=>simp[popc]
 |succ n ih=>have:=ih (x / 2);simp only[popc];omega
theorem popc_add(m n x:Nat):popc (m+n) x=popc m x+popc n (x / 2^m):=by
 induction m generalizing x with
 |zero=>simp[popc]
 |succ m ih =>
  rw[show m+1+n=(m+n)+1 from by omega];simp only[popc];rw[ih,Nat.pow_succ,Nat.mul_comm (2^m) 2,←Nat.div_div_eq_div_mul];omega
theorem popc_mod(n x:Nat):popc n (x%2^n)=popc n x:=by
 induction n generalizing x with
 |zero=>rfl
 |succ n ih =>
  simp only[popc];rw[Nat.pow_succ,Nat.mul_comm (2^n) 2];have h1:x%(2*2^n)%2=x%2:=Nat.mod_mul_right_mod x 2 (2^n);have h2:x%(2*2^n) / 2=x / 2%2^n:=Nat.mod_mul_right_div_self x 2 (2^n);rw[h1,h2,ih]
def m55:Nat→Nat|0=>0|n+1=>85+256*m55 n
def m33:Nat→Nat|0=>0|n+1=>51+256*m33 n
def m0f:Nat→Nat|0=>0|n+1=>15+256*m0f n
def s1(n x:Nat):Nat:=((x / 2) &&& m55 n)+(x &&& m55 n)
def s2(n x:Nat):Nat:=((x / 4) &&& m33 n)+(x &&& m33 n)
def s3(n x:Nat):Nat:=(x / 16+x) &&& m0f n
def counts:Nat→Nat→Nat
 |0,_=>0
 |n+1,x=>popc 8 (x%256)+256*counts n (x / 256)
theorem and_split(b m y p:Nat)(hb:b<256)(hm:m<256):(b+256*y) &&& (m+256*p)=(b &&& m)+256*(y &&& p):=by
 have h1:((b+256*y) &&& (m+256*p)) / 2^8=y &&& p:=by
  rw[Nat.and_div_two_pow];congr 1<;>omega
 have h2:((b+256*y) &&& (m+256*p))%2^8=b &&& m:=by
  rw[Nat.and_mod_two_pow];congr 1<;>omega
 have:=Nat.div_add_mod ((b+256*y) &&& (m+256*p)) (2^8);rw[h1,h2]at this;omega
theorem byte_facts:∀ b,b<256→(∀q,q<2→((b / 2+128*q) &&& 85)+(b &&& 85)<256∧((b / 2+128*q) &&& 85)=((b / 2) &&& 85)) ∧
 (∀q,q<4→((b / 4+64*q) &&& 51)=((b / 4) &&& 51)):=by decide +kernel
theorem byte_sum:∀ b,b<256→(∀q,q<16→let x1:=((b / 2) &&& 85)+(b &&& 85);let x2:=((x1 / 4) &&& 51)+(x1 &&& 51);x1<256∧x2<256∧x2 / 16+16*4+x2<256∧x2%16≤4∧x2 / 16≤4 ∧
 (q≤4→(x2 / 16+16*q+x2) &&& 15=popc 8 b)):=by decide +kernel
theorem s1_split(n b y:Nat)(hb:b<256):s1 (n+1) (b+256*y)=(((b / 2) &&& 85)+(b &&& 85))+256*s1 n y:=by
 unfold s1
 have e:(b+256*y) / 2=(b / 2+128*(y%2))+256*(y / 2):=by omega
 have h:=((byte_facts b hb).1 (y%2) (by omega)).2;rw[e,m55,and_split _ _ _ _ (by omega) (by omega),and_split _ _ _ _ hb (by omega),h];omega
theorem s2_split(n b y:Nat)(hb:b<256):s2 (n+1) (b+256*y)=(((b / 4) &&& 51)+(b &&& 51))+256*s2 n y:=by
 unfold s2
 have e:(b+256*y) / 4=(b / 4+64*(y%4))+256*(y / 4):=by omega
 have h:=(byte_facts b hb).2 (y%4) (by omega);rw[e,m33,and_split _ _ _ _ (by omega) (by omega),and_split _ _ _ _ hb (by omega),h];omega
theorem s2_low(n x:Nat):s2 n (s1 n x)%16≤4:=by
 cases n with
 |zero=>simp[s2,s1,m33,m55]
 |succ n =>
  have e:x=x%256+256*(x / 256):=by omega
  rw[e,s1_split _ _ _ (by omega)];have hb:=byte_sum (x%256) (by omega) 0 (by omega);simp only at hb;rw[s2_split _ _ _ hb.1];have:=hb.2.2.2.1;omega
theorem s3_counts(n x:Nat):s3 n (s2 n (s1 n x))=counts n x:=by
 induction n generalizing x with
 |zero=>simp[s3,m0f,counts]
 |succ n ih =>
  have hlow:=s2_low n (x / 256);have ih':=ih (x / 256)
  have e:x=x%256+256*(x / 256):=by omega
  have hr:counts (n+1) x=popc 8 (x%256)+256*counts n (x / 256):=rfl;rw[hr,←ih']
  conv=>lhs;rw[e]
  rw[s1_split _ _ _ (by omega)];have hb:=byte_sum (x%256) (by omega) (s2 n (s1 n (x / 256))%16) (by omega);simp only at hb;rw[s2_split _ _ _ hb.1];generalize hx2:((((x%256) / 2 &&& 85)+(x%256 &&& 85)) / 4 &&& 51)+((((x%256) / 2 &&& 85)+(x%256 &&& 85)) &&& 51)=x2 at hb⊢;generalize s2 n (s1 n (x / 256))=z at hlow hb⊢;obtain⟨_,h2,h3,h4,h5,h6⟩:=hb;unfold s3
  have e2:(x2+256*z) / 16+(x2+256*z)=(x2 / 16+16*(z%16)+x2)+256*(z / 16+z):=by omega
  rw[e2,m0f,and_split _ _ _ _ (by omega) (by omega),h6 (by omega)]
theorem bU(n x:Nat):∃ c,c≤8∧counts (n+1) x=c+256*counts n (x / 256)∧c=popc 8 x :=
 ⟨popc 8 (x%256),lX 8 _,rfl,popc_mod 8 x⟩
def swar(x:Nat):Nat :=
 let x3:=s3 8 (s2 8 (s1 8 x))
 let x4:=x3+x3 / 256
 let x5:=x4+x4 / 65536
 let x6:=x5+x5 / 4294967296
 x6%128
theorem popc64(x:Nat):popc 64 x=popc 8 x+(popc 8 (x / 256)+(popc 8 (x / 256 / 256)+(popc 8 (x / 256 / 256 / 256)+(popc 8 (x / 256 / 256 / 256 / 256)+(popc 8 (x / 256 / 256 / 256 / 256 / 256) +
 (popc 8 (x / 256 / 256 / 256 / 256 / 256 / 256)+popc 8 (x / 256 / 256 / 256 / 256 / 256 / 256 / 256))))))):=by
 have h:=fun n x=>popc_add 8 n x;simp only[show(2:Nat)^8=256 from rfl]at h;rw[show 64=8+56 from rfl,h,show 56=8+48 from rfl,h,show 48=8+40 from rfl,h,show 40=8+32 from rfl,h,show 32=8+24 from rfl,h,show 24=8+16 from rfl,h,show 16=8+8 from rfl,h]
theorem swar_popc(x:Nat):swar x=popc 64 x:=by
 unfold swar;simp only[s3_counts];rw[popc64];obtain⟨c0,h0,e0,f0⟩:=bU 7 x;obtain⟨c1,h1,e1,f1⟩:=bU 6 (x / 256);obtain⟨c2,h2,e2,f2⟩:=bU 5 (x / 256 / 256);obtain⟨c3,h3,e3,f3⟩:=bU 4 (x / 256 / 256 / 256);obtain⟨c4,h4,e4,f4⟩:=bU 3 (x / 256 / 256 / 256 / 256);obtain⟨c5,h5,e5,f5⟩:=bU 2 (x / 256 / 256 / 256 / 256 / 256);obtain⟨c6,h6,e6,f6⟩:=bU 1 (x / 256 / 256 / 256 / 256 / 256 / 256);obtain⟨c7,h7,e7,f7⟩:=bU 0 (x / 256 / 256 / 256 / 256 / 256 / 256 / 256);rw[←f0,←f1,←f2,←f3,←f4,←f5,←f6,←f7,e0,e1,e2,e3,e4,e5,e6,e7];simp only[counts];clear f0 f1 f2 f3 f4 f5 f6 f7 e0 e1 e2 e3 e4 e5 e6 e7
 have d3:c0+256*(c1+256*(c2+256*(c3+256*(c4+256*(c5+256*(c6+256*(c7+256*0)))))))=c0+256*(c1+256*(c2+256*(c3+256*(c4+256*(c5+256*(c6+256*c7)))))):=by omega
 rw[d3];clear d3
 have d4:(c0+256*(c1+256*(c2+256*(c3+256*(c4+256*(c5+256*(c6+256*c7))))))) / 256=c1+256*(c2+256*(c3+256*(c4+256*(c5+256*(c6+256*c7))))):=by omega
 rw[d4];clear d4
 have d5:∀ a b c d e f g h:Nat,a≤16→b≤16→(a+256*(b+256*(c+256*(d+256*(e+256*(f+256*(g+256*h))))))) / 65536=c+256*(d+256*(e+256*(f+256*(g+256*h)))):=by intros;omega
 have d6:∀ a b c d e f g h:Nat,a≤32→b≤32→c≤32→d≤32→(a+256*(b+256*(c+256*(d+256*(e+256*(f+256*(g+256*h))))))) / 4294967296=e+256*(f+256*(g+256*h)):=by intros;omega
 have k4:(c0+256*(c1+256*(c2+256*(c3+256*(c4+256*(c5+256*(c6+256*c7)))))))+(c1+256*(c2+256*(c3+256*(c4+256*(c5+256*(c6+256*c7)))))) =
  (c0+c1)+256*((c1+c2)+256*((c2+c3)+256*((c3+c4)+256*((c4+c5)+256*((c5+c6)+256*((c6+c7)+256*c7)))))):=by omega
 rw[k4,d5 _ _ _ _ _ _ _ _ (by omega) (by omega)];clear k4 d5
 have k5:(c0+c1)+256*((c1+c2)+256*((c2+c3)+256*((c3+c4)+256*((c4+c5)+256*((c5+c6)+256*((c6+c7)+256*c7))))))+((c2+c3)+256*((c3+c4)+256*((c4+c5)+256*((c5+c6)+256*((c6+c7)+256*c7))))) =
  (c0+c1+(c2+c3))+256*((c1+c2+(c3+c4))+256*((c2+c3+(c4+c5))+256*((c3+c4+(c5+c6))+256*((c4+c5+(c6+c7))+256*((c5+c6+c7)+256*((c6+c7)+256*c7)))))):=by omega
 rw[k5,d6 _ _ _ _ _ _ _ _ (by omega) (by omega) (by omega) (by omega)];clear k5 d6;omega
end Pop
section
theorem kG(y m:Nat)(z c:Int)(hz:z=(y:Int))(hc:c=(m:Int))(hy:y<18446744073709551616)(hm:m<18446744073709551616):bits .and .u64 z c=((y &&& m:Nat):Int):=by
 subst hz;subst hc;exact u64_and_nat y m hy hm
theorem and_i64(y m:Nat)(z c:Int)(hz:z=(y:Int))(hc:c=(m:Int))(hy:y<9223372036854775808)(hm:m<9223372036854775808):bits .and .i64 z c=((y &&& m:Nat):Int):=by
 subst hz;subst hc;have hlt:y &&& m<2^63:=Nat.and_lt_two_pow _ (by omega)
 have e:∀ k:Nat,k<9223372036854775808→(BitVec.ofInt 64 (k:Int)).toNat=k:=fun k hk=>by
  rw[BitVec.ofInt_natCast,BitVec.toNat_ofNat];exact Nat.mod_eq_of_lt (by omega)
 show IntKind.i64.wrap ((BitVec.ofInt 64 (y:Int) &&& BitVec.ofInt 64 (m:Int)).toNat:Int)=_;rw[BitVec.toNat_and,e y hy,e m hm,IntKind.wrap_i64];omega
end
namespace BitsW
open RowKit Pop
theorem ones64(x:Nat)(hx:x<18446744073709551616)(w:World) :
 Calls Tryz.prog 60 #[.int .u64 x] w fun e w'=>e=.returned (.int .i64 (popc 64 x))∧w=w':=by
 have m1:m55 8=6148914691236517205:=by decide
 have m2:m33 8=3689348814741910323:=by decide
 have m3:m0f 8=1085102592571150095:=by decide
 obtain⟨a1,ha1⟩:∃ a1,a1=x / 2 &&& 6148914691236517205:=⟨_,rfl⟩;obtain⟨a2,ha2⟩:∃ a2,a2=x &&& 6148914691236517205:=⟨_,rfl⟩;have la1:a1≤6148914691236517205:=ha1▸Nat.and_le_right;have la2:a2≤6148914691236517205:=ha2▸Nat.and_le_right;obtain⟨b1,hb1⟩:∃ b1,b1=(a1+a2) / 4 &&& 3689348814741910323:=⟨_,rfl⟩;obtain⟨b2,hb2⟩:∃ b2,b2=(a1+a2) &&& 3689348814741910323:=⟨_,rfl⟩;have lb1:b1≤3689348814741910323:=hb1▸Nat.and_le_right;have lb2:b2≤3689348814741910323:=hb2▸Nat.and_le_right;obtain⟨c,hc⟩:∃ c,c=((b1+b2) / 16+(b1+b2)) &&& 1085102592571150095:=⟨_,rfl⟩;have lc:c≤1085102592571150095:=hc▸Nat.and_le_right
 have hs:swar x=(((c+c / 256)+(c+c / 256) / 65536)+((c+c / 256)+(c+c / 256) / 65536) / 4294967296)%128:=by
  unfold swar s1 s2 s3;rw[m1,m2,m3,←ha1,←ha2,←hb1,←hb2,←hc]
 have f1:bits .and .u64 ((x:Int) / 2) 6148914691236517205=(a1:Int):=by rw[ha1];exact kG (x / 2) _ _ _ (by omega) rfl (by omega) (by omega)
 have f2:bits .and .u64 (x:Int) 6148914691236517205=(a2:Int):=by rw[ha2];exact kG x _ _ _ rfl rfl hx (by omega)
 have f3:bits .and .u64 (((a1:Int)+a2) / 4) 3689348814741910323=(b1:Int):=by rw[hb1];exact kG ((a1+a2) / 4) _ _ _ (by omega) rfl (by omega) (by omega)
 have f4:bits .and .u64 ((a1:Int)+a2) 3689348814741910323=(b2:Int):=by rw[hb2];exact kG (a1+a2) _ _ _ (by omega) rfl (by omega) (by omega)
 have f5:bits .and .u64 (((b1:Int)+b2) / 16+((b1:Int)+b2)) 1085102592571150095=(c:Int):=by rw[hc];exact kG ((b1+b2) / 16+(b1+b2)) _ _ _ (by omega) rfl (by omega) (by omega)
 have f6:bits .and .i64 ((((c:Int)+c / 256)+(c+c / 256) / 65536)+((c+c / 256)+(c+c / 256) / 65536) / 4294967296) 127=((popc 64 x:Nat):Int):=by
  rw[←swar_popc,hs,←nat_mask7];exact and_i64 (((c+c / 256)+(c+c / 256) / 65536)+((c+c / 256)+(c+c / 256) / 65536) / 4294967296) _ _ _ (by omega) rfl (by omega) (by omega)
 clear m1 m2 m3 ha1 ha2 hb1 hb2 hc hs;generalize popc 64 x=n at f6
 go_enter Tryz.func60,Tryz.ntmps60
 go_wp2
 go_ret
 exact⟨rfl,rfl⟩
theorem ones(x:Nat)(hx:x<18446744073709551616)(w:World) :
 Calls Tryz.prog 59 #[.int .u64 x] w fun e w'=>e=.returned (.int .i64 (popc 64 x))∧w=w':=by
 go_enter Tryz.func59,Tryz.ntmps59
 go_wp2_with (go_at_call 60;refine(ones64 x hx _).mono ?_;rintro e w' ⟨rfl,rfl⟩)
 go_ret
 exact⟨rfl,rfl⟩
set_option maxRecDepth 100000 in
theorem pop8_popc:∀ n:Fin 256,(Lib.pop8tab[n.val]'(by rw[Lib.pop8tab_size];exact n.isLt)).toNat=popc 8 n.val:=by decide +kernel
set_option maxRecDepth 100000 in
theorem ones8(x:Nat)(hx:x<256)(w:World) :
 Calls Tryz.prog 61 #[.int .u8 x] w fun e w'=>e=.returned (.int .i64 (popc 8 x))∧w=w':=by
 have h:=pop8_popc ⟨x,hx⟩;have hle:=lX 8 x;simp only at h;have H:=hide h;clear h
 go_enter Tryz.func61,Tryz.ntmps61
 go_wp2
 go_ret
 refine⟨congrArg (fun n=>Ending.returned (.int .i64 n)) (a₁:=wrap64 _) ?_,rfl⟩;rw[H.out];exact IntWalk.wrap64_in _ ⟨by omega,by omega⟩
def blen(n:Nat):Nat:=if n=0 then 0 else Nat.log2 n+1
end BitsW
namespace PlacesW
open RowKit Pop
def plc(i:Nat):Nat:=[3,5,6,7,9,10,11,12,13,14,15,17,18,19,20,21,22,23,24,25,26,27,28,29,30,31,33,34,35,36,37,38,39,40,41,42,43,44,45,46,47,48,49,50,51,52,53,54,55,56,57,58,59,60,61,62,63,65,66,67,68,69,70,71].getD i 0
def hd:Nat→Nat|0=>3|i+1=>plc i+1
def mk(j:Nat):Nat→Nat
 |0=>0
 |i+1=>mk j i ||| ((plc i >>> j &&& 1) <<< i)
theorem kz:∀ i:Fin 64,((popc 64 (hd i.val)=1∧plc i.val=hd i.val+1)∨(popc 64 (hd i.val)≠1∧plc i.val=hd i.val))∧popc 64 (plc i.val)≠1∧hd i.val≤71∧plc i.val≤71:=by decide +kernel
def rowAt(i j:Nat):Array Value:=((List.range 7).map fun t=>Value.int .u64 (if t<j then mk t (i+1) else mk t i:Nat)).toArray
theorem row_zero:rowAt 0 0=#[.int .u64 0,.int .u64 0,.int .u64 0,.int .u64 0,.int .u64 0,.int .u64 0,.int .u64 0]:=rfl
theorem hd_zero:hd 0=3:=rfl
theorem hd_succ(i:Nat):hd (i+1)=plc i+1:=rfl
theorem mk_succ(j i:Nat):mk j (i+1)=mk j i ||| ((plc i >>> j &&& 1) <<< i):=rfl
theorem row_next(i:Nat):rowAt i 7=rowAt (i+1) 0:=by
 unfold rowAt
 congr 1
theorem row_size(i j:Nat):(rowAt i j).size=7:=by simp[rowAt]
theorem row_get(i j:Nat)(h:j<7):(rowAt i j)[j]? = some (.int .u64 (mk j i:Nat)):=by
 simp[rowAt,h]
theorem row_step(i j:Nat):(rowAt i j).setIfInBounds j (.int .u64 (mk j (i+1):Nat))=rowAt i (j+1):=by
 apply Array.ext (by simp[rowAt])
 intro t h1 h2;simp only[Array.size_setIfInBounds,row_size]at h1;rw[Array.getElem_setIfInBounds (by simpa[row_size] using h1)];by_cases e:j=t
 ·subst e;simp[rowAt]
 ·rw[if_neg e];simp only[rowAt,List.getElem_toArray,List.getElem_map,List.getElem_range];by_cases ht:t<j
  ·rw[if_pos ht,if_pos (by omega)]
  ·rw[if_neg ht,if_neg (by omega)]
theorem mk_lt(j i:Nat):mk j i<2^i:=by
 induction i with
 |zero=>simp[mk]
 |succ i ih =>
  rw[mk_succ];have h1:plc i >>> j &&& 1≤1:=Nat.and_le_right
  have h2:(plc i >>> j &&& 1) <<< i≤1*2^i:=by rw[Nat.shiftLeft_eq];exact Nat.mul_le_mul_right _ h1
  exact Nat.or_lt_two_pow (by rw[Nat.pow_succ];omega) (by rw[Nat.pow_succ];omega)
theorem or_spelt(j i p:Nat)(hi:i<64)(hp:p≤71)(he:p=plc i) :
 bits .or .u64 (mk j i:Nat) (IntKind.u64.wrap (bits .and .u64 ((p:Int) / 2^j) 1*2^i))=((mk j (i+1):Nat):Int):=by
 have hpow:(2:Nat)^i≤2^63:=Nat.pow_le_pow_right (by omega) (by omega);have hm:=mk_lt j i
 have e1:((p:Int) / 2^j)=((p / 2^j:Nat):Int):=by simp
 have hle:p / 2^j≤p:=Nat.div_le_self _ _;rw[e1,kG (p / 2^j) 1 _ 1 rfl rfl (by omega) (by omega)];have h1:p / 2^j &&& 1≤1:=Nat.and_le_right;have h2:(p / 2^j &&& 1)*2^i≤1*2^i:=Nat.mul_le_mul_right _ h1
 have e2:(((p / 2^j &&& 1:Nat):Int)*2^i)=(((p / 2^j &&& 1)*2^i:Nat):Int):=by simp
 rw[e2,IntKind.wrap_u64]
 have e3:((((p / 2^j &&& 1)*2^i:Nat):Int)%18446744073709551616)=(((p / 2^j &&& 1)*2^i:Nat):Int):=by omega
 rw[e3,u64_or_nat _ _ (by omega) (by omega),mk_succ,←he,Nat.shiftRight_eq_div_pow,Nat.shiftLeft_eq]
attribute [local irreducible] plc hd mk popc
theorem places_any(w:World):Calls Tryz.prog 39 #[] w fun e w' =>
 e=.returned (.agg #[.int .u64 (mk 0 64),.int .u64 (mk 1 64),.int .u64 (mk 2 64),.int .u64 (mk 3 64),.int .u64 (mk 4 64),.int .u64 (mk 5 64),.int .u64 (mk 6 64)])∧Below w.heap.size w w':=by
 have hb0:Below w.heap.size w (w.alloc (.cells #[.int .u64 0,.int .u64 0,.int .u64 0,.int .u64 0,.int .u64 0,.int .u64 0,.int .u64 0] 97)):=(Below.refl _ _).alloc (Nat.le_refl _) _
 have hk0:Bk (w.alloc (.cells #[.int .u64 0,.int .u64 0,.int .u64 0,.int .u64 0,.int .u64 0,.int .u64 0,.int .u64 0] 97)) w.heap.size 97 (rowAt 0 0):=by rw[row_zero];exact Bk.new _ _ _
 go_enter Tryz.func39,Tryz.ntmps39
 go_wp2
 generalize w.alloc (.cells #[.int .u64 0,.int .u64 0,.int .u64 0,.int .u64 0,.int .u64 0,.int .u64 0,.int .u64 0] 97)=w0 at hb0 hk0;generalize hg:w.heap.size=g at *;have HG:=hide hg;clear hg
 go_loopw [1,4] (fun p i wr=>∃ k:Nat,k≤64∧i=.int .i64 k∧p=.int .u64 (hd k)∧Bk wr g 97 (rowAt k 0)∧Below g w wr) (fun _ i _=>64-(intOf i).toNat)
 case atStart=>exact⟨0,by omega,rfl,by rw[hd_zero];rfl,hk0,hb0⟩
 case round =>
  obtain⟨i,hi,rfl,rfl,hk,hb⟩:=hrel;by_cases hlt:i<64
  ·have hlt_i:=hlt;have l1:hd i≤71:=(kz ⟨i,hlt⟩).2.2.1;have l2:plc i≤71:=(kz ⟨i,hlt⟩).2.2.2
   have hd1:decide ((i:Int)<64)=true:=by simp;omega
   go_wp2
   go_loop [1] (fun v=>∃ p:Nat,p≤71∧v=.int .u64 p∧Hid (p=hd i∨p=plc i)) (fun v=>plc i-(intOf v).toNat)
   case atStart=>exact⟨hd i,l1,rfl,hide (.inl rfl)⟩
   case round =>
    obtain⟨p,hp,rfl,HP⟩:=hrel;by_cases h1:popc 64 p=1
    ·have ht:((popc 64 p:Int)==1)=true:=by rw[h1];rfl
     have hpp:Hid (p+1=plc i∧p<plc i):=by
      obtain⟨hsk,hpl,-,-⟩:=kz ⟨i,hlt⟩;simp only at hsk hpl;rcases HP.out with e|e
      ·subst e;rcases hsk with⟨_,e2⟩|⟨e1,_⟩
       ·exact hide ⟨e2.symm,by omega⟩
       ·exact absurd h1 e1
      ·subst e;exact absurd h1 hpl
     clear h1
     go_wp2_with (go_at_call 59;refine(BitsW.ones p (by omega) _).mono ?_;rintro e w' ⟨rfl,rfl⟩)
     go_round
     case rel=>exact⟨p+1,by have:=hpp.out;omega,by go_num,hide (.inr hpp.out.1)⟩
     case measure=>have:=hpp.out;simp[intOf];omega
    ·have ht:((popc 64 p:Int)==1)=false:=by simp;omega
     have HE:Hid (p=plc i):=by
      obtain⟨hsk,-,-,-⟩:=kz ⟨i,hlt⟩;simp only at hsk;rcases HP.out with e|e
      ·subst e;rcases hsk with⟨e1,_⟩|⟨_,e2⟩
       ·exact absurd e1 h1
       ·exact hide e2.symm
      ·exact hide e
     clear h1
     go_wp2_with (go_at_call 59;refine(BitsW.ones p (by omega) _).mono ?_;rintro e w' ⟨rfl,rfl⟩)
     go_loopw [12] (fun v wr=>∃ j:Nat,j≤7∧v=.int .i64 j∧Bk wr g 97 (rowAt i j)∧Below g w wr) (fun v _=>7-(intOf v).toNat)
     case atStart=>exact⟨0,by omega,rfl,hk,hb⟩
     case round =>
      clear hk hb;rename_i wq _;obtain⟨j,hj,rfl,hk,hb⟩:=hrel;by_cases hlt:j<7
      ·have hc:wr.cell? ⟨g,j,none⟩=some (.int .u64 (mk j i)):=hk.at_ (row_get i j hlt);have hf:=hk.free j
       have hd2:decide ((j:Int)<7)=true:=by simp;omega
       go_wp2
       go_region
       go_wp2
       go_roundw
       case rel =>
        have hv:=or_spelt j i p hlt_i (by omega) HE.out;rw[hv];exact⟨j+1,by omega,by go_num,by rw[←row_step];exact(hk.put j _).drew,(hb.setCell (p:=⟨g,j,none⟩) (Nat.le_refl _) _).drew⟩
       case measure=>simp[intOf];omega
      ·go_wp2
       go_roundw
       case rel =>
        obtain rfl:j=7:=by omega
        exact⟨i+1,by omega,by go_num,by rw[hd_succ,←HE.out];go_num,by rw[←row_next];exact hk,hb⟩
       case measure=>simp[intOf];omega
  ·obtain rfl:i=64:=by omega
   have c0:=hk.at_ (i:=0) (u:=.int .u64 (mk 0 64:Nat)) rfl;have c1:=hk.at_ (i:=1) (u:=.int .u64 (mk 1 64:Nat)) rfl;have c2:=hk.at_ (i:=2) (u:=.int .u64 (mk 2 64:Nat)) rfl;have c3:=hk.at_ (i:=3) (u:=.int .u64 (mk 3 64:Nat)) rfl;have c4:=hk.at_ (i:=4) (u:=.int .u64 (mk 4 64:Nat)) rfl;have c5:=hk.at_ (i:=5) (u:=.int .u64 (mk 5 64:Nat)) rfl;have c6:=hk.at_ (i:=6) (u:=.int .u64 (mk 6 64:Nat)) rfl;have f0:=hk.free 0;have f1:=hk.free 1;have f2:=hk.free 2;have f3:=hk.free 3;have f4:=hk.free 4;have f5:=hk.free 5;have f6:=hk.free 6
   go_wp2
   have hbb:=((((((hb.setCell (p:=⟨g,0,none⟩) (Nat.le_refl _) (.int .u64 (mk 0 64:Nat))).setCell (p:=⟨g,1,none⟩) (Nat.le_refl _) (.int .u64 (mk 1 64:Nat))).setCell (p:=⟨g,2,none⟩) (Nat.le_refl _) (.int .u64 (mk 2 64:Nat))).setCell
    (p:=⟨g,3,none⟩) (Nat.le_refl _) (.int .u64 (mk 3 64:Nat))).setCell (p:=⟨g,4,none⟩) (Nat.le_refl _) (.int .u64 (mk 4 64:Nat))).setCell (p:=⟨g,5,none⟩) (Nat.le_refl _) (.int .u64 (mk 5 64:Nat))).setCell (p:=⟨g,6,none⟩) (Nat.le_refl _) (.int .u64 (mk 6 64:Nat))
   refine bodyPost_ret (v:=.agg #[.int .u64 (mk 0 64),.int .u64 (mk 1 64),.int .u64 (mk 2 64),.int .u64 (mk 3 64),.int .u64 (mk 4 64),.int .u64 (mk 5 64),.int .u64 (mk 6 64)]) ?_ rfl ⟨rfl,by rw[HG.out];exact hbb⟩;clear hbb hb hk;simp[results,Tryz.results39,go_sem,c0,c1,c2,c3,c4,c5,c6]
end PlacesW
namespace WordW
open RowKit Pop
def le:List UInt8→Nat
 |[]=>0
 |b::t=>b.toNat+256*le t
theorem le_lt(l:List UInt8):le l<256^l.length:=by
 induction l with
 |nil=>simp[le]
 |cons b t ih =>
  have:=b.toNat_lt;simp only[le,List.length_cons,Nat.pow_succ];omega
theorem le_snoc(l:List UInt8)(b:UInt8):le (l++[b])=le l+b.toNat*256^l.length:=by
 induction l with
 |nil=>simp[le]
 |cons c t ih =>
  simp only[List.cons_append,le,ih,List.length_cons,Nat.pow_succ];rw[Nat.mul_add,Nat.add_assoc]
  congr 2
  rw[Nat.mul_comm (256^t.length) 256,←Nat.mul_assoc,←Nat.mul_assoc,Nat.mul_comm 256]
theorem or_byte(x k:Nat)(b:UInt8)(hk:k<8)(hx:x<256^k):bits .or .u64 (x:Int) (IntKind.u64.wrap ((b.toNat:Int)*2^(8*k)))=((x+b.toNat*256^k:Nat):Int):=by
 have hb:=b.toNat_lt
 have e0:(256:Nat)^k=2^(8*k):=by rw[show(256:Nat)=2^8 from rfl,←Nat.pow_mul]
 have e1:(((b.toNat:Int)*2^(8*k)))=((b.toNat*2^(8*k):Nat):Int):=by simp
 have hp:(2:Nat)^(8*k)≤2^56:=Nat.pow_le_pow_right (by omega) (by omega);have hm:b.toNat*2^(8*k)≤255*2^(8*k):=Nat.mul_le_mul_right _ (by omega);rw[e1,IntKind.wrap_u64]
 have e2:(((b.toNat*2^(8*k):Nat):Int)%18446744073709551616)=((b.toNat*2^(8*k):Nat):Int):=by omega
 rw[e0]at hx;rw[e2,u64_or_nat _ _ (by omega) (by omega),Nat.or_comm,nat_join (8*k) _ _ (Nat.mul_mod_left _ _) hx,e0,Nat.add_comm]
theorem word_any(A:Option Addr)(l:List UInt8)(n cap:Nat)(w:World)(hn:n=l.length)(h8:8≤l.length)(hr:Rd w A (u8v l)) :
 Calls Tryz.prog 41 #[.slice A n cap] w fun e w'=>e=.returned (.int .u64 (le (l.take 8)))∧w=w':=by
 subst hn;obtain⟨b,off,rfl,_,hc⟩:=hr.form (by simp[u8v];omega);simp only[u8v,List.getElem_map,List.length_map]at hc;have HC:=hide hc;clear hc
 go_enter Tryz.func41,Tryz.ntmps41
 go_wp2
 go_loop [2,4] (fun c i=>∃ (k x:Nat),k≤8∧i=.int .i64 k∧c=.int .u64 x∧Hid (x=le (l.take k))) (fun _ i=>8-(intOf i).toNat)
 case atStart=>exact⟨0,0,by omega,rfl,rfl,hide (by simp[le])⟩
 case round =>
  obtain⟨k,x,hk,rfl,rfl,HX⟩:=hrel;by_cases hlt:k<8
  ·have hck:=HC.out k (by omega);have hbd:=l[k].toNat_lt
   have hin:k<l.length:=by omega
   have hlen:(l.take k).length=k:=by simp;omega
   have hlx:x<256^k:=by have:=le_lt (l.take k);rw[hlen]at this;rw[HX.out];exact this
   have hor:=or_byte x k l[k] hlt hlx
   have HN:Hid (x+l[k].toNat*256^k=le (l.take (k+1))):=by
    have e:=le_snoc (l.take k) l[k];rw[←List.take_succ_eq_append_getElem hin,hlen,←HX.out]at e;exact hide e.symm
   generalize x+l[k].toNat*256^k=y at hor HN;clear hlx hlen
   go_wp2
   go_round
   case rel=>exact⟨k+1,y,by omega,by go_num,rfl,HN⟩
   case measure=>simp[intOf];omega
  ·go_wp2
   go_ret
   obtain rfl:k=8:=by omega
   exact⟨by rw[←HX.out];rfl,rfl⟩
def par7(m:Nat→Nat)(x:Nat):Nat→Nat
 |0=>0
 |k+1=>par7 m x k+popc 64 (x &&& m k)%2*2^k
theorem par7_lt(m:Nat→Nat)(x k:Nat):par7 m x k<2^k:=by
 induction k with
 |zero=>simp[par7]
 |succ k ih =>
  simp only[par7,Nat.pow_succ]
  have:popc 64 (x &&& m k)%2≤1:=by omega
  have h2:popc 64 (x &&& m k)%2*2^k≤1*2^k:=Nat.mul_le_mul_right _ this;omega
def chkBy(m:Nat→Nat)(x:Nat):Nat:=par7 m x 7+(popc 64 x+popc 8 (par7 m x 7))%2*128
theorem mask_at0(a0 a1 a2 a3 a4 a5 a6:Int):∀ w:World,(Instr.index 97 (.agg #[.int .u64 a0,.int .u64 a1,.int .u64 a2,.int .u64 a3,.int .u64 a4,.int .u64 a5,.int .u64 a6]) (.int .i64 0)).run Tryz.prog w=.ok (.int .u64 a0) w:=fun _=>by kernel_rfl
theorem mask_at1(a0 a1 a2 a3 a4 a5 a6:Int):∀ w:World,(Instr.index 97 (.agg #[.int .u64 a0,.int .u64 a1,.int .u64 a2,.int .u64 a3,.int .u64 a4,.int .u64 a5,.int .u64 a6]) (.int .i64 1)).run Tryz.prog w=.ok (.int .u64 a1) w:=fun _=>by kernel_rfl
theorem mask_at2(a0 a1 a2 a3 a4 a5 a6:Int):∀ w:World,(Instr.index 97 (.agg #[.int .u64 a0,.int .u64 a1,.int .u64 a2,.int .u64 a3,.int .u64 a4,.int .u64 a5,.int .u64 a6]) (.int .i64 2)).run Tryz.prog w=.ok (.int .u64 a2) w:=fun _=>by kernel_rfl
theorem mask_at3(a0 a1 a2 a3 a4 a5 a6:Int):∀ w:World,(Instr.index 97 (.agg #[.int .u64 a0,.int .u64 a1,.int .u64 a2,.int .u64 a3,.int .u64 a4,.int .u64 a5,.int .u64 a6]) (.int .i64 3)).run Tryz.prog w=.ok (.int .u64 a3) w:=fun _=>by kernel_rfl
theorem mask_at4(a0 a1 a2 a3 a4 a5 a6:Int):∀ w:World,(Instr.index 97 (.agg #[.int .u64 a0,.int .u64 a1,.int .u64 a2,.int .u64 a3,.int .u64 a4,.int .u64 a5,.int .u64 a6]) (.int .i64 4)).run Tryz.prog w=.ok (.int .u64 a4) w:=fun _=>by kernel_rfl
theorem mask_at5(a0 a1 a2 a3 a4 a5 a6:Int):∀ w:World,(Instr.index 97 (.agg #[.int .u64 a0,.int .u64 a1,.int .u64 a2,.int .u64 a3,.int .u64 a4,.int .u64 a5,.int .u64 a6]) (.int .i64 5)).run Tryz.prog w=.ok (.int .u64 a5) w:=fun _=>by kernel_rfl
theorem mask_at6(a0 a1 a2 a3 a4 a5 a6:Int):∀ w:World,(Instr.index 97 (.agg #[.int .u64 a0,.int .u64 a1,.int .u64 a2,.int .u64 a3,.int .u64 a4,.int .u64 a5,.int .u64 a6]) (.int .i64 6)).run Tryz.prog w=.ok (.int .u64 a6) w:=fun _=>by kernel_rfl
theorem mask_at(m:Nat→Nat)(k:Nat)(hk:k<7)(w:World) :
 (Instr.index 97 (.agg #[.int .u64 (m 0),.int .u64 (m 1),.int .u64 (m 2),.int .u64 (m 3),.int .u64 (m 4),.int .u64 (m 5),.int .u64 (m 6)]) (.int .i64 k)).run Tryz.prog w=.ok (.int .u64 (m k)) w:=by
 have h:k=0∨k=1∨k=2∨k=3∨k=4∨k=5∨k=6:=by omega
 rcases h with rfl|rfl|rfl|rfl|rfl|rfl|rfl
 ·exact mask_at0 _ _ _ _ _ _ _ w
 ·exact mask_at1 _ _ _ _ _ _ _ w
 ·exact mask_at2 _ _ _ _ _ _ _ w
 ·exact mask_at3 _ _ _ _ _ _ _ w
 ·exact mask_at4 _ _ _ _ _ _ _ w
 ·exact mask_at5 _ _ _ _ _ _ _ w
 ·exact mask_at6 _ _ _ _ _ _ _ w
theorem or_par(y k p:Nat)(hk:k<8)(hy:y<2^k)(hp:p≤128):bits .or .u8 (y:Int) (bits .and .i64 (p:Int) 1%256*2^k%256)=((y+p%2*2^k:Nat):Int):=by
 rw[and_i64 p 1 _ 1 rfl rfl (by omega) (by omega),Nat.and_one_is_mod];have hpow:(2:Nat)^k≤2^7:=Nat.pow_le_pow_right (by omega) (by omega)
 have e0:(((p%2:Nat):Int)%256)=((p%2:Nat):Int):=by omega
 have e1:(((p%2:Nat):Int)*2^k)=((p%2*2^k:Nat):Int):=by simp
 have hm:p%2*2^k≤1*2^k:=Nat.mul_le_mul_right _ (by omega)
 have e2:(((p%2*2^k:Nat):Int)%256)=((p%2*2^k:Nat):Int):=by omega
 rw[e0,e1,e2,u8_or_nat _ _ (by omega) (by omega),Nat.or_comm,nat_join k _ _ (Nat.mul_mod_left _ _) hy,Nat.add_comm]
theorem par7_zero(m:Nat→Nat)(x:Nat):par7 m x 0=0:=rfl
theorem par7_succ(m:Nat→Nat)(x k:Nat):par7 m x (k+1)=par7 m x k+popc 64 (x &&& m k)%2*2^k:=rfl
attribute [local irreducible] popc par7
theorem check_any(m:Nat→Nat)(x:Nat)(hx:x<18446744073709551616)(hm:∀ k,m k<18446744073709551616)(w:World) :
 Calls Tryz.prog 40 #[.int .u64 x,.agg #[.int .u64 (m 0),.int .u64 (m 1),.int .u64 (m 2),.int .u64 (m 3),.int .u64 (m 4),.int .u64 (m 5),.int .u64 (m 6)]] w fun e w' =>
  e=.returned (.int .u8 (chkBy m x))∧Below w.heap.size w w':=by
 have hb:Below w.heap.size w (w.alloc (.cells #[.int .u64 (m 0),.int .u64 (m 1),.int .u64 (m 2),.int .u64 (m 3),.int .u64 (m 4),.int .u64 (m 5),.int .u64 (m 6)] 97)):=(Below.refl _ _).alloc (Nat.le_refl _) _;have HM:=hide hm;clear hm
 go_enter Tryz.func40,Tryz.ntmps40
 go_wp2
 generalize w.alloc _=w1 at hb⊢
 go_loop [5,9] (fun c i=>∃ (k y:Nat),k≤7∧i=.int .i64 k∧c=.int .u8 y∧Hid (y=par7 m x k)) (fun _ i=>7-(intOf i).toNat)
 case atStart=>exact⟨0,0,by omega,rfl,rfl,hide (par7_zero m x).symm⟩
 case round =>
  obtain⟨k,y,hk,rfl,rfl,HY⟩:=hrel;by_cases hlt:k<7
  ·have hidx:=mask_at m k hlt;have hand:=u64_and_nat x (m k) hx (HM.out k);have hlx:x &&& m k<18446744073709551616:=Nat.lt_of_le_of_lt Nat.and_le_left hx;have hpc:=lX 64 (x &&& m k);have hor:=or_par y k (popc 64 (x &&& m k)) (by omega) (by rw[HY.out];exact par7_lt m x k) (by omega)
   have HN:Hid (y+popc 64 (x &&& m k)%2*2^k=par7 m x (k+1)):=by rw[HY.out];exact hide (par7_succ m x k).symm
   generalize y+popc 64 (x &&& m k)%2*2^k=z at hor HN
   go_wp2_with (go_at_call 60;refine(BitsW.ones64 _ hlx _).mono ?_;rintro e w' ⟨rfl,rfl⟩)
   go_round
   case rel=>exact⟨k+1,z,by omega,by go_num,rfl,HN⟩
   case measure=>simp[intOf];omega
  ·obtain rfl:k=7:=by omega
   have hy:y<128:=by rw[HY.out];exact par7_lt m x 7
   have h1:=lX 64 x;have h2:=lX 8 y;have hor:=or_par y 7 (popc 64 x+popc 8 y) (by omega) (by omega) (by omega);have HO:=hide hor;clear hor
   go_wp2_with (first|(go_at_call 60;refine(BitsW.ones64 _ hx _).mono ?_;rintro e w' ⟨rfl,rfl⟩)|(go_at_call 61;refine(BitsW.ones8 _ (by omega) _).mono ?_;rintro e w' ⟨rfl,rfl⟩))
   go_ret
   refine⟨congrArg (fun n=>Ending.returned (.int .u8 n)) (a₁:=bits .or .u8 _ _) (HO.out.trans ?_),hb⟩;unfold chkBy;rw[HY.out]
theorem fits_ok(A:Option Addr)(n cap:Nat)(w:World)(h:n%8=0)(h2:n≤4096) :
 Calls Tryz.prog 38 #[.slice A n cap] w fun e w'=>e=.returned .nilIface∧w=w':=by
 have ht:((n:Int)%8 != 0)=false:=by simp;omega
 clear h
 go_enter Tryz.func38,Tryz.ntmps38
 go_wp2
 go_ret
 exact⟨rfl,rfl⟩
end WordW
section
def lowB(x n:Nat):List UInt8:=(List.range n).map fun i=>UInt8.ofNat (x / 256^i)
theorem af(x n:Nat):(lowB x n).length=n:=by simp[lowB]
theorem lowB_zero(x:Nat):lowB x 0=[]:=rfl
theorem nD(x n:Nat):lowB x (n+1)=lowB x n++[UInt8.ofNat (x / 256^n)]:=by simp[lowB,List.range_succ]
def splL(l:List UInt8)(off:Nat)(r:List UInt8):List UInt8:=l.take off++(r++l.drop (off+r.length))
theorem fQ(l:List UInt8)(off:Nat)(r:List UInt8)(h:off+r.length≤l.length):(splL l off r).length=l.length:=by simp[splL];omega
theorem splL_nil(l:List UInt8)(off:Nat):splL l off []=l:=by simp[splL]
theorem splL_snoc(l:List UInt8)(off:Nat)(r:List UInt8)(x:UInt8)(h:off+r.length<l.length):splL l off (r++[x])=(splL l off r).set (off+r.length) x:=by
 unfold splL
 have e1:(l.take off).length=off:=by simp;omega
 rw[List.set_append_right _ _ (by omega),e1,Nat.add_sub_cancel_left,List.set_append_right _ _ (Nat.le_refl _),Nat.sub_self];rw[List.drop_eq_getElem_cons h];simp[Nat.add_assoc]
end
namespace Crc
def kK(c:BitVec 32):BitVec 32:=(c >>> 1) ^^^ (if c.getLsbD 0 then 0xEDB88320#32 else 0#32)
def jQ:Nat→BitVec 32→BitVec 32
 |0,c=>c
 |k+1,c=>kK (jQ k c)
def byteStep(c:BitVec 32)(b:UInt8):BitVec 32:=jQ 8 (c ^^^ BitVec.ofNat 32 b.toNat)
def reg(c:BitVec 32)(l:List UInt8):BitVec 32:=l.foldl byteStep c
def crc(l:List UInt8):BitVec 32 := ~~~ (reg 0xFFFFFFFF#32 l)
theorem reg_snoc(c:BitVec 32)(l:List UInt8)(x:UInt8):reg c (l++[x])=byteStep (reg c l) x:=by simp[reg]
end Crc
namespace Fram
open Crc
def leN:List UInt8→Nat
 |[]=>0
 |b::t=>b.toNat+256*leN t
theorem lh(l:List UInt8):leN l<256^l.length:=by
 induction l with
 |nil=>simp[leN]
 |cons b t ih =>
  have:=b.toNat_lt;simp only[leN,List.length_cons,Nat.pow_succ];omega
theorem leN_snoc(l:List UInt8)(b:UInt8):leN (l++[b])=leN l+b.toNat*256^l.length:=by
 induction l with
 |nil=>simp[leN]
 |cons c t ih =>
  simp only[List.cons_append,leN,ih,List.length_cons,Nat.pow_succ];rw[Nat.mul_add,Nat.add_assoc]
  congr 2
  rw[Nat.mul_comm (256^t.length) 256,←Nat.mul_assoc,←Nat.mul_assoc,Nat.mul_comm 256]
theorem jJ(x n:Nat):leN (lowB x n)=x%256^n:=by
 induction n with
 |zero=>simp[lowB,leN,Nat.mod_one]
 |succ n ih =>
  rw[nD,leN_snoc,ih,af,UInt8.toNat_ofNat'];show x%256^n+(x / 256^n%256)*256^n=x%256^(n+1);have e:(256:Nat)^(n+1)=256^n*256:=rfl;rw[e,Nat.mod_mul,Nat.mul_comm (x / 256^n%256)]
theorem lowB_leN(l:List UInt8):lowB (leN l) l.length=l:=by
 induction l with
 |nil=>rfl
 |cons b t ih =>
  have hb:=b.toNat_lt
  have h0:UInt8.ofNat (b.toNat+256*leN t)=b:=by
   apply UInt8.toNat_inj.1
   rw[UInt8.toNat_ofNat'];omega
  have hrec:∀ x n,lowB x (n+1)=UInt8.ofNat x::lowB (x / 256) n:=by
   intro x n;simp only[lowB,List.range_succ_eq_map,List.map_cons,List.map_map,Nat.pow_zero,Nat.div_one]
   congr 1
   apply List.map_congr_left
   intro i _;simp only[Function.comp];rw[Nat.pow_succ,Nat.mul_comm,←Nat.div_div_eq_div_mul]
  simp only[leN,List.length_cons];rw[hrec,h0,show(b.toNat+256*leN t) / 256=leN t from by omega,ih]
def page(k lba seq:Nat)(sum:List UInt8)(data:List UInt8)(n:Nat):List UInt8 :=
 [165,UInt8.ofNat k]++(lowB lba 4++(lowB seq 8++(lowB data.length 2++(sum++(data++(List.replicate (n-21-data.length) 0++[90]))))))
def pack(n k lba seq:Nat)(data:List UInt8):List UInt8 :=
 page k lba seq (lowB (crc (page k lba seq [0,0,0,0] data n)).toNat 4) data n
theorem oJ(k lba seq:Nat)(sum data:List UInt8)(n:Nat)(hs:sum.length=4)(hd:data.length+21≤n):(page k lba seq sum data n).length=n:=by
 simp[page,af,hs];omega
theorem pack_length(n k lba seq:Nat)(data:List UInt8)(hd:data.length+21≤n):(pack n k lba seq data).length=n:=oJ _ _ _ _ _ _ (af _ _) hd
theorem ji(a b c r:List UInt8)(off:Nat)(ho:off=a.length)(h:r.length=b.length):splL (a++(b++c)) off r=a++(r++c):=by
 subst ho
 have e:(a++(b++c)).drop (a.length+b.length)=c:=by rw[←List.append_assoc,List.drop_left' (by simp)]
 unfold splL;rw[List.take_left' rfl,h,e]
theorem rep_add(a b:Nat):List.replicate (a+b) (0:UInt8)=List.replicate a 0++List.replicate b 0:=by
 rw[List.replicate_append_replicate]
def eQ(n k:Nat):List UInt8:=(((List.replicate n (0:UInt8)).set 0 165).set 1 (UInt8.ofNat k)).set (n-1) 90
theorem blankP_eq(n k len:Nat)(hn:len+21≤n)(h24:24≤n):eQ n k=[165,UInt8.ofNat k]++(List.replicate 4 0++(List.replicate 8 0++(List.replicate 2 0++(List.replicate 4 0++(List.replicate len 0++(List.replicate (n-21-len) 0++[90])))))):=by
 unfold eQ;obtain⟨m,rfl⟩:∃ m,n=2+(4+(8+(2+(4+(len+(m+1)))))):=⟨n-21-len,by omega⟩
 have e:2+(4+(8+(2+(4+(len+(m+1))))))-21-len=m:=by omega
 rw[e]
 have e2:((List.replicate (2+(4+(8+(2+(4+(len+(m+1))))))) (0:UInt8)).set 0 165).set 1 (UInt8.ofNat k)=[165,UInt8.ofNat k]++List.replicate (4+(8+(2+(4+(len+(m+1)))))) 0:=by
  rw[rep_add];rfl
 rw[e2]
 have e3:List.replicate (4+(8+(2+(4+(len+(m+1)))))) (0:UInt8)=List.replicate (4+(8+(2+(4+(len+m))))) 0++[0]:=by
  rw[←List.replicate_succ']
  congr 1
 rw[e3,List.set_append_right _ _ (by simp;omega),List.set_append_right _ _ (by simp;omega)]
 have e4:2+(4+(8+(2+(4+(len+(m+1))))))-1-[(165:UInt8),UInt8.ofNat k].length-(List.replicate (4+(8+(2+(4+(len+m))))) (0:UInt8)).length=0:=by
  simp;omega
 rw[e4];simp only[rep_add,List.append_assoc];rfl
theorem built(n k lba seq:Nat)(data sum:List UInt8)(hd:data.length+21≤n)(h24:24≤n)(hs:sum.length=4) :
 splL (splL (splL (splL (splL (eQ n k) 2 (lowB lba 4)) 6 (lowB seq 8)) 14 (lowB data.length 2)) 20 data) 16 sum=page k lba seq sum data n ∧
 splL (splL (splL (splL (eQ n k) 2 (lowB lba 4)) 6 (lowB seq 8)) 14 (lowB data.length 2)) 20 data=page k lba seq [0,0,0,0] data n:=by
 have s1:splL (eQ n k) 2 (lowB lba 4)=[165,UInt8.ofNat k]++(lowB lba 4++(List.replicate 8 0++(List.replicate 2 0++(List.replicate 4 0++(List.replicate data.length 0++(List.replicate (n-21-data.length) 0++[90])))))):=by
  rw[blankP_eq n k data.length hd h24];exact ji _ _ _ _ 2 rfl (by simp[af])
 have s2:splL (splL (eQ n k) 2 (lowB lba 4)) 6 (lowB seq 8)=([165,UInt8.ofNat k]++lowB lba 4)++(lowB seq 8++(List.replicate 2 0++(List.replicate 4 0++(List.replicate data.length 0++(List.replicate (n-21-data.length) 0++[90]))))):=by
  rw[s1,←List.append_assoc];exact ji _ _ _ _ 6 (by simp[af]) (by simp[af])
 have s3:splL (splL (splL (eQ n k) 2 (lowB lba 4)) 6 (lowB seq 8)) 14 (lowB data.length 2)=(([165,UInt8.ofNat k]++lowB lba 4)++lowB seq 8)++(lowB data.length 2++(List.replicate 4 0++(List.replicate data.length 0++(List.replicate (n-21-data.length) 0++[90])))):=by
  rw[s2,←List.append_assoc ([165,UInt8.ofNat k]++lowB lba 4)];exact ji _ _ _ _ 14 (by simp[af]) (by simp[af])
 have s4:splL (splL (splL (splL (eQ n k) 2 (lowB lba 4)) 6 (lowB seq 8)) 14 (lowB data.length 2)) 20 data=((([165,UInt8.ofNat k]++lowB lba 4)++lowB seq 8)++lowB data.length 2++List.replicate 4 0)++(data++(List.replicate (n-21-data.length) 0++[90])):=by
  rw[s3,←List.append_assoc _ (lowB data.length 2),←List.append_assoc _ (List.replicate 4 0)];exact ji _ _ _ _ 20 (by simp[af]) (by simp)
 refine⟨?_,?_⟩
 ·rw[s4,List.append_assoc _ (List.replicate 4 0)];rw[ji _ (List.replicate 4 0) _ sum 16 (by simp[af]) (by simp[hs])];simp[page]
 ·rw[s4];simp[page,List.replicate]
theorem lowB_inj{x y n:Nat}(hx:x<256^n)(hy:y<256^n)(h:lowB x n=lowB y n):x=y:=by
 have:=congrArg leN h;rw[jJ,jJ,Nat.mod_eq_of_lt hx,Nat.mod_eq_of_lt hy]at this;exact this
end Fram
end
end Go.Proofs.YtlaipigilikmbaaGreatDoor
namespace Go.Proofs
open Go.Shelf
noncomputable def Tryz.laysSlB13_ren:Go.Shelf.Ren:=⟨fun|13=>80|24=>100|25=>101|12=>102|n=>n,fun|22=>25|n=>n,fun|n=>n⟩
theorem Tryz.laysSlB13:Go.Proofs.SlLaysB.n13 Tryz.prog Tryz.laysSlB13_ren:={
 mixed:=by kernel_rfl
 f13:=Tryz.func80.trans (congrArg some (by kernel_rfl))
 f25:=Tryz.func101.trans (congrArg some (by kernel_rfl))
 t0:=Tryz.underlying0
 a0:=Tryz.isAgg0
 z0:=Tryz.sizeOf0
 v0:=Tryz.zeroValue0
 t3:=Tryz.underlying3
 a3:=Tryz.isAgg3
 z3:=Tryz.sizeOf3
 v3:=Tryz.zeroValue3
 t4:=Tryz.underlying4
 a4:=Tryz.isAgg4
 z4:=Tryz.sizeOf4
 v4:=Tryz.zeroValue4
 t5:=Tryz.underlying5
 a5:=Tryz.isAgg5
 z5:=Tryz.sizeOf5
 v5:=Tryz.zeroValue5
 t22:=Tryz.underlying25
 a22:=Tryz.isAgg25
 z22:=Tryz.sizeOf25
 v22:=Tryz.zeroValue25}
open Go.RowKit Go.Lib in
theorem Tryz.bytes_Count_one_at(a:Addr)(n c b2 o2 d:Nat)(xs:List Int)(cv:Int)(w:World)(hx:xs.length=n)(hc:∀ i,i<n→w.cell? (a.add i)=some (.int .u8 (xs.getD i 0)))(hc2:w.cell? ⟨b2,o2,none⟩=some (.int .u8 cv)) :
 Calls Tryz.prog 80 #[.slice (some a) n c,.slice (some ⟨b2,o2,none⟩) 1 d] w fun e w'=>e=.returned (.int .i64 (Lib.countByte (Lib.bytesOf xs) cv.toNat.toUInt8))∧w'=w:=Any.bytes_Count_one_at Tryz.laysSlB13 a n c b2 o2 d xs cv w hx hc hc2
def Tryz.laysSlK4_ren:Go.Shelf.Ren:=⟨fun|4=>82|n=>n,fun|22=>25|4=>4|5=>5|n=>n,fun|n=>n⟩
theorem Tryz.laysSlK4:Go.Proofs.SlLaysK.n4 Tryz.prog Tryz.laysSlK4_ren:={
 mixed:=by kernel_rfl
 f4:=Tryz.func82.trans (congrArg some (by kernel_rfl))
 t4:=Tryz.underlying4
 a4:=Tryz.isAgg4
 z4:=Tryz.sizeOf4
 v4:=Tryz.zeroValue4
 t22:=Tryz.underlying25
 a22:=Tryz.isAgg25
 z22:=Tryz.sizeOf25
 v22:=Tryz.zeroValue25
 t5:=Tryz.underlying5
 i5:=by kernel_rfl}
open Go.RowKit Go.Lib in
theorem Tryz.bytes_Clone_at(a:Addr)(n c:Nat)(xs:List Int)(w:World)(hx:xs.length=n)(hbig:n≤140737488355328)(hc:∀ i,i<n→w.cell? (a.add i)=some (.int .u8 (xs.getD i 0))) :
 Calls Tryz.prog 82 #[.slice (some a) n c] w fun e w'=>∃ v',e=.returned v'∧w'.ownsRow w.heap.size 5 1 v' n (xs.map (Value.int .u8))∧v'≠.slice none 0 0∧Below w.heap.size w w':=Any.bytes_Clone_at Tryz.laysSlK4 a n c xs w hx hbig hc
open Go.RowKit Go.Lib in
theorem Tryz.bytes_Clone_nil(n c:Nat)(w:World) :
 Calls Tryz.prog 82 #[.slice none n c] w fun e w'=>e=.returned (.slice none 0 0)∧w'=w:=Any.bytes_Clone_nil Tryz.laysSlK4 n c w
def Tryz.laysnb115_ren:Go.Shelf.Ren:=⟨fun|115=>83|n=>n,fun|37=>25|4=>4|9=>9|5=>5|n=>n,fun|n=>n⟩
theorem Tryz.laysnb115:Go.Proofs.Lays.nb115 Tryz.prog Tryz.laysnb115_ren:={
 mixed:=by kernel_rfl
 f115:=Tryz.func83.trans (congrArg some (by kernel_rfl))
 t4:=Tryz.underlying4
 a4:=Tryz.isAgg4
 z4:=Tryz.sizeOf4
 v4:=Tryz.zeroValue4
 t9:=Tryz.underlying9
 a9:=Tryz.isAgg9
 z9:=Tryz.sizeOf9
 v9:=Tryz.zeroValue9
 t37:=Tryz.underlying25
 a37:=Tryz.isAgg25
 z37:=Tryz.sizeOf25
 v37:=Tryz.zeroValue25
 t5:=Tryz.underlying5
 a5:=Tryz.isAgg5
 z5:=Tryz.sizeOf5
 v5:=Tryz.zeroValue5}
theorem Tryz.bytes_Equal_all(p1 p2:Option Addr)(n c m d:Nat)(xs ys:List Int)(w:World)(hx:xs.length=n)(hy:ys.length=m)(h1:Lib.BytesIn w p1 n xs)(h2:Lib.BytesIn w p2 m ys) :
 Calls Tryz.prog 83 #[.slice p1 n c,.slice p2 m d] w fun e w'=>e=.returned (.bool (Lib.bytesOf xs==Lib.bytesOf ys))∧w'=w:=Any.bytes_Equal_all Tryz.laysnb115 p1 p2 n c m d xs ys w hx hy h1 h2
end Go.Proofs
namespace Go.Proofs.YtlaipigilikmbaaGreatDoor
noncomputable section
namespace GetW
open RowKit Fram
set_option maxHeartbeats 1000000 in
theorem get_any(A:Option Addr)(l:List UInt8)(n cap:Nat)(w:World)(hn:n=l.length)(h0:0<l.length)(h8:l.length≤8)(hr:Rd w A (u8v l)) :
 Calls Tryz.prog 81 #[.slice A n cap] w fun e w'=>e=.returned (.int .u64 (leN l))∧w=w':=by
 obtain⟨b,off,rfl,_,hc⟩:=hr.form (by simp[u8v];omega);simp only[u8v,List.getElem_map,List.length_map]at hc;have HC:=hide hc;have HN:=hide hn
 have hn8:n≤8:=by omega
 clear hc hn h8 h0
 go_enter Tryz.func81,Tryz.ntmps81
 go_wp2
 go_loop [2,7] (fun c i=>∃ (k x:Nat),k≤n∧i=.int .i64 k∧c=.int .u64 x∧Hid (x=leN (l.take k))) (fun _ i=>n-(intOf i).toNat)
 case atStart=>exact⟨0,0,by omega,rfl,rfl,hide (by simp[leN])⟩
 case round =>
  obtain⟨k,x,hk,rfl,rfl,HX⟩:=hrel;by_cases hlt:k<n
  ·have hin:k<l.length:=by rw[←HN.out];exact hlt
   have hck:=HC.out k hin;have hbd:=l[k].toNat_lt
   have hlen:(l.take k).length=k:=by simp;omega
   have hlx:x<256^k:=by have:=lh (l.take k);rw[hlen]at this;rw[HX.out];exact this
   have hor:=WordW.or_byte x k l[k] (by omega) hlx
   have HN2:Hid (x+l[k].toNat*256^k=leN (l.take (k+1))):=by
    have e:=leN_snoc (l.take k) l[k];rw[←List.take_succ_eq_append_getElem hin,hlen,←HX.out]at e;exact hide e.symm
   generalize x+l[k].toNat*256^k=y at hor HN2;clear hlx hlen
   go_wp2
   go_round
   case rel=>exact⟨k+1,y,by omega,by go_num,rfl,HN2⟩
   case measure=>simp[intOf];omega
  ·go_wp2
   go_ret
   obtain rfl:k=n:=by omega
   refine⟨?_,rfl⟩;rw[HX.out,List.take_of_length_le (by rw[←HN.out];exact Nat.le_refl _)];rfl
def nums(l:List UInt8):List Int:=l.map fun x=>(x.toNat:Int)
theorem nums_length(l:List UInt8):(nums l).length=l.length:=by simp[nums]
theorem jm(l:List UInt8):Lib.bytesOf (nums l)=l:=by
 unfold Lib.bytesOf nums;rw[List.map_map]
 conv=>rhs;rw[←List.map_id l]
 apply List.map_congr_left
 intro x _
 apply UInt8.toNat_inj.1
 simp[Function.comp]
theorem nums_cells(l:List UInt8):(nums l).map (Value.int .u8)=u8v l:=by
 unfold nums u8v;rw[List.map_map];rfl
theorem rd_nums{w:World}{A:Option Addr}{l:List UInt8}(h:Rd w A (u8v l)):∀ ad,A=some ad→∀ i,i<l.length→w.cell? (ad.add i)=some (.int .u8 ((nums l).getD i 0)):=by
 intro ad had i hi;refine h.cells ad had i _ ?_;rw[kH l i hi];simp[nums,List.getD,hi]
theorem rd_in{w:World}{A:Option Addr}{l:List UInt8}(h:Rd w A (u8v l)):Lib.BytesIn w A l.length (nums l):=by
 intro hn;obtain⟨b,o,rfl,_,hc⟩:=h.form (by rw[aC];exact hn);refine⟨b,o,rfl,fun i hi=>?_⟩;have:=hc i (by rw[aC];exact hi);rw[this];simp[u8v,nums,List.getD,hi]
theorem count_any(A:Option Addr)(l:List UInt8)(n c g d:Nat)(w:World)(hn:n=l.length)(h0:0<n)(hr:Rd w A (u8v l))(hg:w.cell? ⟨g,0,none⟩=some (.int .u8 255)) :
 Calls Tryz.prog 80 #[.slice A n c,.slice (some ⟨g,0,none⟩) 1 d] w fun e w'=>e=.returned (.int .i64 ((l.count 255:Nat):Int))∧w'=w:=by
 subst hn;obtain⟨b,o,rfl,_,_⟩:=hr.form (by rw[aC];exact h0);have h:=Tryz.bytes_Count_one_at ⟨b,o,none⟩ l.length c g 0 d (nums l) 255 w (nums_length l) (rd_nums hr _ rfl) hg;rw[jm]at h;exact h
theorem oH{w:World}{A:Option Addr}{xs:List Value}(h:Rd w A xs){p:Addr}(u:Value)(hp:∀ g o,A=some ⟨g,o,none⟩→xs≠[]→g≠p.block):Rd (w.setCell p u) A xs:=by
 rcases h with rfl|⟨b,off,rfl,hc⟩
 ·exact .inl rfl
 ·by_cases hx:xs=[]
  ·exact .inl hx
  ·refine .inr ⟨b,off,rfl,fun i v hv=>?_⟩;rw[World.cell?_of_block (w:=w) (Below.heap_setCell w p u b (hp b off rfl hx))];exact hc i v hv
theorem clone_any(A:Option Addr)(l:List UInt8)(n c:Nat)(w:World)(hn:n=l.length)(hm:n≤140737488355328)(hr:Rd w A (u8v l)) :
 Calls Tryz.prog 82 #[.slice A n c] w fun e w'=>∃ B c',e=.returned (.slice B n c')∧n≤c'∧Rd w' B (u8v l)∧Below w.heap.size w w'∧(∀g o,B=some ⟨g,o,none⟩→u8v l≠[]→w.heap.size≤g):=by
 subst hn
 cases A with
 |none =>
  have hl:=hr.none_
  have hl0:l.length=0:=by rw[←aC,hl];rfl
  refine(Tryz.bytes_Clone_nil l.length c w).mono ?_;rintro e w' ⟨rfl,rfl⟩;exact⟨none,0,by rw[hl0],by omega,hr,Below.refl _ _,fun g o h=>by cases h⟩
 |some ad =>
  refine(Tryz.bytes_Clone_at ad l.length c (nums l) w (nums_length l) hm (rd_nums hr ad rfl)).mono ?_;rintro e w' ⟨v,rfl,ho,-,hb⟩;rw[nums_cells]at ho;obtain⟨B,c',rfl,h1,_,h2,_,_⟩:=dL ho;refine⟨B,c',rfl,h1,h2,hb,fun g o hB hne=>?_⟩
  have hpos:0<l.length:=by
   rcases Nat.eq_zero_or_pos l.length with h|h
   ·exact absurd (List.eq_nil_of_length_eq_zero (by rw[aC];exact h)) hne
   ·exact h
  obtain⟨g',hg',hle,_⟩:=own_at ho hpos;rw[hB]at hg';injection hg' with hg';injection hg' with hg';rw[hg'];exact hle
theorem equal_any(A B:Option Addr)(l m:List UInt8)(n k c d:Nat)(w:World)(hn:n=l.length)(hk:k=m.length)(h1:Rd w A (u8v l))(h2:Rd w B (u8v m))(r:Bool)(hr:r=decide (l=m)) :
 Calls Tryz.prog 83 #[.slice A n c,.slice B k d] w fun e w'=>e=.returned (.bool r)∧w'=w:=by
 subst hn hk;have h:=Tryz.bytes_Equal_all A B l.length c m.length d (nums l) (nums m) w (nums_length l) (nums_length m) (rd_in h1) (rd_in h2);rw[jm,jm]at h
 have e:(l==m)=r:=by rw[hr];by_cases h:l=m<;>simp[h]
 rwa[e]at h
end GetW
