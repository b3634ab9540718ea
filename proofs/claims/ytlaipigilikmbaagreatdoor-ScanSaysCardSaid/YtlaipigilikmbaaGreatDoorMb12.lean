/- Texts of this seat,put together: PopPlain,Bits,Places,Word,PutPlain,CrcPlain,FramePlain,Shelf,Get. -/
import Derived.Test.YtlaipigilikmbaaGreatDoorMb1
import Derived.Test.YtlaipigilikmbaaGreatDoorChecked
import Derived.WalkLawsBesides
import Derived.Lib.BitFns
import Derived.Ground.SlbNamesProg
import Derived.Shelf.Bytes.SlCountOne
import Derived.Shelf.LaysM
import Derived.Ground.SlbCloneProg
import Derived.Shelf.Bytes.SlClone
import Derived.Shelf.Bytes.SlEqualAll
import Derived.Shelf.Bytes.Small
import Derived.Test.YtlaipigilikmbaaGreatDoorProg
set_option linter.unusedVariables false
set_option linter.unusedSimpArgs false
namespace Go.Proofs.YtlaipigilikmbaaGreatDoor.Pop

def popc:Nat→Nat→Nat
  | 0,_=>0
  | n + 1,x=>x % 2 + popc n (x / 2)

def m55:Nat→Nat | 0=>0 | n + 1=>85 + 256 * m55 n
def m33:Nat→Nat | 0=>0 | n + 1=>51 + 256 * m33 n
def m0f:Nat→Nat | 0=>0 | n + 1=>15 + 256 * m0f n

def s1 (n x:Nat):Nat:=((x / 2) &&& m55 n) + (x &&& m55 n)
def s2 (n x:Nat):Nat:=((x / 4) &&& m33 n) + (x &&& m33 n)
def s3 (n x:Nat):Nat:=(x / 16 + x) &&& m0f n

def counts:Nat→Nat→Nat
  | 0,_=>0
  | n + 1,x=>popc 8 (x % 256) + 256 * counts n (x / 256)

end Go.Proofs.YtlaipigilikmbaaGreatDoor.Pop

namespace Go.Proofs.YtlaipigilikmbaaGreatDoor
end Go.Proofs.YtlaipigilikmbaaGreatDoor
namespace Go.Proofs.YtlaipigilikmbaaGreatDoor.BitsW
open Go.RowKit Pop

def blen (n:Nat):Nat:=if n = 0 then 0 else Nat.log2 n + 1

end Go.Proofs.YtlaipigilikmbaaGreatDoor.BitsW

namespace Go.Proofs.YtlaipigilikmbaaGreatDoor.PlacesW
open Go.RowKit Pop

def plc (i:Nat):Nat:=[3,5,6,7,9,10,11,12,13,14,15,17,18,19,20,21,22,23,24,25,26,27,28,29,30,31,33,34,35,36,37,38,39,40,41,42,43,44,45,46,47,48,49,50,51,52,53,54,55,56,57,58,59,60,61,62,63,65,66,67,68,69,70,71].getD i 0
def hd:Nat→Nat | 0=>3 | i + 1=>plc i + 1

def mk (j:Nat):Nat→Nat
  | 0=>0
  | i + 1=>mk j i ||| ((plc i >>> j &&& 1) <<< i)

attribute [local irreducible] plc hd mk popc
end Go.Proofs.YtlaipigilikmbaaGreatDoor.PlacesW

namespace Go.Proofs.YtlaipigilikmbaaGreatDoor.WordW
open Go.RowKit Pop

def le:List UInt8→Nat
  | []=>0
  | b :: t=>b.toNat + 256 * le t

theorem or_byte (x k:Nat) (b:UInt8) (hk:k < 8) (hx:x < 256 ^ k):bits .or .u64 (x:Int) (IntKind.u64.wrap ((b.toNat:Int) * 2 ^ (8 * k))) = ((x + b.toNat * 256 ^ k:Nat):Int):=by
  have hb:=b.toNat_lt
  have e0:(256:Nat) ^ k = 2 ^ (8 * k):=by rw [show (256:Nat) = 2 ^ 8 from rfl,← Nat.pow_mul]
  have e1:(((b.toNat:Int) * 2 ^ (8 * k))) = ((b.toNat * 2 ^ (8 * k):Nat):Int):=by simp
  have hp:(2:Nat) ^ (8 * k) ≤ 2 ^ 56:=Nat.pow_le_pow_right (by omega) (by omega)
  have hm:b.toNat * 2 ^ (8 * k) ≤ 255 * 2 ^ (8 * k):=Nat.mul_le_mul_right _ (by omega)
  rw [e1,IntKind.wrap_u64]
  have e2:(((b.toNat * 2 ^ (8 * k):Nat):Int) % 18446744073709551616) = ((b.toNat * 2 ^ (8 * k):Nat):Int):=by omega
  rw [e0] at hx
  rw [e2,u64_or_nat _ _ (by omega) (by omega),Nat.or_comm,nat_join (8 * k) _ _ (Nat.mul_mod_left _ _) hx,e0,Nat.add_comm]

attribute [local irreducible] popc
end Go.Proofs.YtlaipigilikmbaaGreatDoor.WordW

namespace Go.Proofs.YtlaipigilikmbaaGreatDoor

def lowB (x n:Nat):List UInt8:=(List.range n).map fun i=>UInt8.ofNat (x / 256 ^ i)
theorem lowB_length (x n:Nat):(lowB x n).length = n:=by simp [lowB]
theorem lowB_zero (x:Nat):lowB x 0 = []:=rfl
theorem lowB_succ (x n:Nat):lowB x (n + 1) = lowB x n ++ [UInt8.ofNat (x / 256 ^ n)]:=by simp [lowB,List.range_succ]

def splL (l:List UInt8) (off:Nat) (r:List UInt8):List UInt8:=l.take off ++ (r ++ l.drop (off + r.length))
theorem splL_length (l:List UInt8) (off:Nat) (r:List UInt8) (h:off + r.length ≤ l.length):(splL l off r).length = l.length:=by simp [splL]; omega
theorem splL_nil (l:List UInt8) (off:Nat):splL l off [] = l:=by simp [splL]
theorem splL_snoc (l:List UInt8) (off:Nat) (r:List UInt8) (x:UInt8) (h:off + r.length < l.length):splL l off (r ++ [x]) = (splL l off r).set (off + r.length) x:=by
  unfold splL
  have e1:(l.take off).length = off:=by simp; omega
  rw [List.set_append_right _ _ (by omega),e1,Nat.add_sub_cancel_left,List.set_append_right _ _ (Nat.le_refl _),Nat.sub_self]
  rw [List.drop_eq_getElem_cons h]
  simp [Nat.add_assoc]
end Go.Proofs.YtlaipigilikmbaaGreatDoor

namespace Go.Proofs.YtlaipigilikmbaaGreatDoor.Crc

def bitStep (c:BitVec 32):BitVec 32:=(c >>> 1) ^^^ (if c.getLsbD 0 then 0xEDB88320#32 else 0#32)

def bitSteps:Nat→BitVec 32→BitVec 32
  | 0,c=>c
  | k + 1,c=>bitStep (bitSteps k c)

def byteStep (c:BitVec 32) (b:UInt8):BitVec 32:=bitSteps 8 (c ^^^ BitVec.ofNat 32 b.toNat)

def reg (c:BitVec 32) (l:List UInt8):BitVec 32:=l.foldl byteStep c

def crc (l:List UInt8):BitVec 32 := ~~~ (reg 0xFFFFFFFF#32 l)

theorem reg_snoc (c:BitVec 32) (l:List UInt8) (x:UInt8):reg c (l ++ [x]) = byteStep (reg c l) x:=by simp [reg]

end Go.Proofs.YtlaipigilikmbaaGreatDoor.Crc

namespace Go.Proofs.YtlaipigilikmbaaGreatDoor.Fram
open Crc

def leN:List UInt8→Nat
  | []=>0
  | b :: t=>b.toNat + 256 * leN t

theorem leN_lt (l:List UInt8):leN l < 256 ^ l.length:=by
  induction l with
  | nil=>simp [leN]
  | cons b t ih =>
    have:=b.toNat_lt
    simp only [leN,List.length_cons,Nat.pow_succ]
    omega

theorem leN_snoc (l:List UInt8) (b:UInt8):leN (l ++ [b]) = leN l + b.toNat * 256 ^ l.length:=by
  induction l with
  | nil=>simp [leN]
  | cons c t ih =>
    simp only [List.cons_append,leN,ih,List.length_cons,Nat.pow_succ]
    rw [Nat.mul_add,Nat.add_assoc]
    congr 2
    rw [Nat.mul_comm (256 ^ t.length) 256,← Nat.mul_assoc,← Nat.mul_assoc,Nat.mul_comm 256]

def page (k lba seq:Nat) (sum:List UInt8) (data:List UInt8) (n:Nat):List UInt8 :=
  [165,UInt8.ofNat k] ++ (lowB lba 4 ++ (lowB seq 8 ++ (lowB data.length 2 ++ (sum ++ (data ++ (List.replicate (n - 21 - data.length) 0 ++ [90]))))))

def pack (n k lba seq:Nat) (data:List UInt8):List UInt8 :=
  page k lba seq (lowB (crc (page k lba seq [0,0,0,0] data n)).toNat 4) data n

theorem page_length (k lba seq:Nat) (sum data:List UInt8) (n:Nat) (hs:sum.length = 4) (hd:data.length + 21 ≤ n):(page k lba seq sum data n).length = n:=by
  simp [page,lowB_length,hs]; omega

theorem pack_length (n k lba seq:Nat) (data:List UInt8) (hd:data.length + 21 ≤ n):(pack n k lba seq data).length = n:=page_length _ _ _ _ _ _ (lowB_length _ _) hd

theorem splL_part (a b c r:List UInt8) (off:Nat) (ho:off = a.length) (h:r.length = b.length):splL (a ++ (b ++ c)) off r = a ++ (r ++ c):=by
  subst ho
  have e:(a ++ (b ++ c)).drop (a.length + b.length) = c:=by rw [← List.append_assoc,List.drop_left' (by simp)]
  unfold splL
  rw [List.take_left' rfl,h,e]

theorem rep_add (a b:Nat):List.replicate (a + b) (0:UInt8) = List.replicate a 0 ++ List.replicate b 0:=by
  rw [List.replicate_append_replicate]

def blankP (n k:Nat):List UInt8:=(((List.replicate n (0:UInt8)).set 0 165).set 1 (UInt8.ofNat k)).set (n - 1) 90
theorem blankP_eq (n k len:Nat) (hn:len + 21 ≤ n) (h24:24 ≤ n):blankP n k = [165,UInt8.ofNat k] ++ (List.replicate 4 0 ++ (List.replicate 8 0 ++ (List.replicate 2 0 ++ (List.replicate 4 0 ++ (List.replicate len 0 ++ (List.replicate (n - 21 - len) 0 ++ [90])))))):=by
  unfold blankP
  obtain ⟨m,rfl⟩:∃ m,n = 2 + (4 + (8 + (2 + (4 + (len + (m + 1)))))):=⟨n - 21 - len,by omega⟩
  have e:2 + (4 + (8 + (2 + (4 + (len + (m + 1)))))) - 21 - len = m:=by omega
  rw [e]
  have e2:((List.replicate (2 + (4 + (8 + (2 + (4 + (len + (m + 1))))))) (0:UInt8)).set 0 165).set 1 (UInt8.ofNat k) = [165,UInt8.ofNat k] ++ List.replicate (4 + (8 + (2 + (4 + (len + (m + 1)))))) 0:=by
    rw [rep_add]; rfl
  rw [e2]
  have e3:List.replicate (4 + (8 + (2 + (4 + (len + (m + 1)))))) (0:UInt8) = List.replicate (4 + (8 + (2 + (4 + (len + m))))) 0 ++ [0]:=by
    rw [← List.replicate_succ']
    congr 1
  rw [e3,List.set_append_right _ _ (by simp; omega),List.set_append_right _ _ (by simp; omega)]
  have e4:2 + (4 + (8 + (2 + (4 + (len + (m + 1)))))) - 1 - [(165:UInt8),UInt8.ofNat k].length - (List.replicate (4 + (8 + (2 + (4 + (len + m))))) (0:UInt8)).length = 0:=by
    simp; omega
  rw [e4]
  simp only [rep_add,List.append_assoc]
  rfl

theorem built (n k lba seq:Nat) (data sum:List UInt8) (hd:data.length + 21 ≤ n) (h24:24 ≤ n) (hs:sum.length = 4) :
    splL (splL (splL (splL (splL (blankP n k) 2 (lowB lba 4)) 6 (lowB seq 8)) 14 (lowB data.length 2)) 20 data) 16 sum = page k lba seq sum data n ∧
    splL (splL (splL (splL (blankP n k) 2 (lowB lba 4)) 6 (lowB seq 8)) 14 (lowB data.length 2)) 20 data = page k lba seq [0,0,0,0] data n:=by
  have s1:splL (blankP n k) 2 (lowB lba 4) = [165,UInt8.ofNat k] ++ (lowB lba 4 ++ (List.replicate 8 0 ++ (List.replicate 2 0 ++ (List.replicate 4 0 ++ (List.replicate data.length 0 ++ (List.replicate (n - 21 - data.length) 0 ++ [90])))))):=by
    rw [blankP_eq n k data.length hd h24]
    exact splL_part _ _ _ _ 2 rfl (by simp [lowB_length])
  have s2:splL (splL (blankP n k) 2 (lowB lba 4)) 6 (lowB seq 8) = ([165,UInt8.ofNat k] ++ lowB lba 4) ++ (lowB seq 8 ++ (List.replicate 2 0 ++ (List.replicate 4 0 ++ (List.replicate data.length 0 ++ (List.replicate (n - 21 - data.length) 0 ++ [90]))))):=by
    rw [s1,← List.append_assoc]
    exact splL_part _ _ _ _ 6 (by simp [lowB_length]) (by simp [lowB_length])
  have s3:splL (splL (splL (blankP n k) 2 (lowB lba 4)) 6 (lowB seq 8)) 14 (lowB data.length 2) = (([165,UInt8.ofNat k] ++ lowB lba 4) ++ lowB seq 8) ++ (lowB data.length 2 ++ (List.replicate 4 0 ++ (List.replicate data.length 0 ++ (List.replicate (n - 21 - data.length) 0 ++ [90])))):=by
    rw [s2,← List.append_assoc ([165,UInt8.ofNat k] ++ lowB lba 4)]
    exact splL_part _ _ _ _ 14 (by simp [lowB_length]) (by simp [lowB_length])
  have s4:splL (splL (splL (splL (blankP n k) 2 (lowB lba 4)) 6 (lowB seq 8)) 14 (lowB data.length 2)) 20 data = ((([165,UInt8.ofNat k] ++ lowB lba 4) ++ lowB seq 8) ++ lowB data.length 2 ++ List.replicate 4 0) ++ (data ++ (List.replicate (n - 21 - data.length) 0 ++ [90])):=by
    rw [s3,← List.append_assoc _ (lowB data.length 2),← List.append_assoc _ (List.replicate 4 0)]
    exact splL_part _ _ _ _ 20 (by simp [lowB_length]) (by simp)
  refine ⟨?_, ?_⟩
  · rw [s4,List.append_assoc _ (List.replicate 4 0)]
    rw [splL_part _ (List.replicate 4 0) _ sum 16 (by simp [lowB_length]) (by simp [hs])]
    simp [page]
  · rw [s4]
    simp [page,List.replicate]

end Go.Proofs.YtlaipigilikmbaaGreatDoor.Fram

namespace Go.Proofs
open Go.Shelf
noncomputable def Tryz.laysSlB13_ren:Go.Shelf.Ren:=⟨fun | 13=>80 | 24=>100 | 25=>101 | 12=>102 | n=>n,fun | 22=>25 | n=>n,fun | n=>n⟩
theorem Tryz.laysSlB13:Go.Proofs.SlLaysB.n13 Tryz.prog Tryz.laysSlB13_ren:={
  mixed:=by kernel_rfl
  f13:=Tryz.func80.trans (congrArg some (by kernel_rfl))
  f25:=Tryz.func101.trans (congrArg some (by kernel_rfl))
  t0:=Tryz.underlying0
  a0:=Tryz.isAgg0
  z0:=Tryz.sizeOf0
  v0:=Tryz.zeroValue0
  t3:=Tryz.underlying3
  a3:=Tryz.isAgg3
  z3:=Tryz.sizeOf3
  v3:=Tryz.zeroValue3
  t4:=Tryz.underlying4
  a4:=Tryz.isAgg4
  z4:=Tryz.sizeOf4
  v4:=Tryz.zeroValue4
  t5:=Tryz.underlying5
  a5:=Tryz.isAgg5
  z5:=Tryz.sizeOf5
  v5:=Tryz.zeroValue5
  t22:=Tryz.underlying25
  a22:=Tryz.isAgg25
  z22:=Tryz.sizeOf25
  v22:=Tryz.zeroValue25 }
open Go.RowKit Go.Lib in
theorem Tryz.bytes_Count_one_at (a:Addr) (n c b2 o2 d:Nat) (xs:List Int) (cv:Int) (w:World) (hx:xs.length = n) (hc:∀ i,i < n→w.cell? (a.add i) = some (.int .u8 (xs.getD i 0))) (hc2:w.cell? ⟨b2,o2,none⟩ = some (.int .u8 cv)) :
    Calls Tryz.prog 80 #[.slice (some a) n c,.slice (some ⟨b2,o2,none⟩) 1 d] w fun e w'=>e = .returned (.int .i64 (Lib.countByte (Lib.bytesOf xs) cv.toNat.toUInt8))∧w' = w:=Any.bytes_Count_one_at Tryz.laysSlB13 a n c b2 o2 d xs cv w hx hc hc2
def Tryz.laysSlK4_ren:Go.Shelf.Ren:=⟨fun | 4=>82 | n=>n,fun | 22=>25 | 4=>4 | 5=>5 | n=>n,fun | n=>n⟩
theorem Tryz.laysSlK4:Go.Proofs.SlLaysK.n4 Tryz.prog Tryz.laysSlK4_ren:={
  mixed:=by kernel_rfl
  f4:=Tryz.func82.trans (congrArg some (by kernel_rfl))
  t4:=Tryz.underlying4
  a4:=Tryz.isAgg4
  z4:=Tryz.sizeOf4
  v4:=Tryz.zeroValue4
  t22:=Tryz.underlying25
  a22:=Tryz.isAgg25
  z22:=Tryz.sizeOf25
  v22:=Tryz.zeroValue25
  t5:=Tryz.underlying5
  i5:=by kernel_rfl }
open Go.RowKit Go.Lib in
theorem Tryz.bytes_Clone_at (a:Addr) (n c:Nat) (xs:List Int) (w:World) (hx:xs.length = n) (hbig:n ≤ 140737488355328) (hc:∀ i,i < n→w.cell? (a.add i) = some (.int .u8 (xs.getD i 0))) :
    Calls Tryz.prog 82 #[.slice (some a) n c] w fun e w'=>∃ v',e = .returned v'∧w'.ownsRow w.heap.size 5 1 v' n (xs.map (Value.int .u8))∧v' ≠ .slice none 0 0∧Below w.heap.size w w':=Any.bytes_Clone_at Tryz.laysSlK4 a n c xs w hx hbig hc
open Go.RowKit Go.Lib in
theorem Tryz.bytes_Clone_nil (n c:Nat) (w:World) :
    Calls Tryz.prog 82 #[.slice none n c] w fun e w'=>e = .returned (.slice none 0 0)∧w' = w:=Any.bytes_Clone_nil Tryz.laysSlK4 n c w
def Tryz.laysnb115_ren:Go.Shelf.Ren:=⟨fun | 115=>83 | n=>n,fun | 37=>25 | 4=>4 | 9=>9 | 5=>5 | n=>n,fun | n=>n⟩
theorem Tryz.laysnb115:Go.Proofs.Lays.nb115 Tryz.prog Tryz.laysnb115_ren:={
  mixed:=by kernel_rfl
  f115:=Tryz.func83.trans (congrArg some (by kernel_rfl))
  t4:=Tryz.underlying4
  a4:=Tryz.isAgg4
  z4:=Tryz.sizeOf4
  v4:=Tryz.zeroValue4
  t9:=Tryz.underlying9
  a9:=Tryz.isAgg9
  z9:=Tryz.sizeOf9
  v9:=Tryz.zeroValue9
  t37:=Tryz.underlying25
  a37:=Tryz.isAgg25
  z37:=Tryz.sizeOf25
  v37:=Tryz.zeroValue25
  t5:=Tryz.underlying5
  a5:=Tryz.isAgg5
  z5:=Tryz.sizeOf5
  v5:=Tryz.zeroValue5 }
theorem Tryz.bytes_Equal_all (p1 p2:Option Addr) (n c m d:Nat) (xs ys:List Int) (w:World) (hx:xs.length = n) (hy:ys.length = m) (h1:Lib.BytesIn w p1 n xs) (h2:Lib.BytesIn w p2 m ys) :
    Calls Tryz.prog 83 #[.slice p1 n c,.slice p2 m d] w fun e w'=>e = .returned (.bool (Lib.bytesOf xs == Lib.bytesOf ys))∧w' = w:=Any.bytes_Equal_all Tryz.laysnb115 p1 p2 n c m d xs ys w hx hy h1 h2
end Go.Proofs

namespace Go.Proofs.YtlaipigilikmbaaGreatDoor.GetW
open Go.RowKit Fram

set_option maxHeartbeats 1000000 in
theorem get_any (A:Option Addr) (l:List UInt8) (n cap:Nat) (w:World) (hn:n = l.length) (h0:0 < l.length) (h8:l.length ≤ 8) (hr:Rd w A (u8v l)) :
    Calls Tryz.prog 81 #[.slice A n cap] w fun e w'=>e = .returned (.int .u64 (leN l))∧w = w':=by
  obtain ⟨b,off,rfl,_,hc⟩:=hr.form (by simp [u8v]; omega)
  simp only [u8v,List.getElem_map,List.length_map] at hc
  have HC:=hide hc
  have HN:=hide hn
  have hn8:n ≤ 8:=by omega
  clear hc hn h8 h0
  go_enter Tryz.func81,Tryz.ntmps81
  go_wp2
  go_loop [2,7] (fun c i=>∃ (k x:Nat),k ≤ n∧i = .int .i64 k∧c = .int .u64 x∧Hid (x = leN (l.take k))) (fun _ i=>n - (intOf i).toNat)
  case atStart=>exact ⟨0,0,by omega,rfl,rfl,hide (by simp [leN])⟩
  case round =>
    obtain ⟨k,x,hk,rfl,rfl,HX⟩:=hrel
    by_cases hlt:k < n
    · have hin:k < l.length:=by rw [← HN.out]; exact hlt
      have hck:=HC.out k hin
      have hbd:=l[k].toNat_lt
      have hlen:(l.take k).length = k:=by simp; omega
      have hlx:x < 256 ^ k:=by have:=leN_lt (l.take k); rw [hlen] at this; rw [HX.out]; exact this
      have hor:=WordW.or_byte x k l[k] (by omega) hlx
      have HN2:Hid (x + l[k].toNat * 256 ^ k = leN (l.take (k + 1))):=by
        have e:=leN_snoc (l.take k) l[k]
        rw [← List.take_succ_eq_append_getElem hin,hlen,← HX.out] at e
        exact hide e.symm
      generalize x + l[k].toNat * 256 ^ k = y at hor HN2
      clear hlx hlen
      go_wp2
      go_round
      case rel=>exact ⟨k + 1,y,by omega,by go_num,rfl,HN2⟩
      case measure=>simp [intOf]; omega
    · go_wp2
      go_ret
      obtain rfl:k = n:=by omega
      refine ⟨?_,rfl⟩
      rw [HX.out,List.take_of_length_le (by rw [← HN.out]; exact Nat.le_refl _)]
      rfl

def nums (l:List UInt8):List Int:=l.map fun x=>(x.toNat:Int)
theorem nums_length (l:List UInt8):(nums l).length = l.length:=by simp [nums]
theorem bytesOf_nums (l:List UInt8):Lib.bytesOf (nums l) = l:=by
  unfold Lib.bytesOf nums
  rw [List.map_map]
  conv=>rhs; rw [← List.map_id l]
  apply List.map_congr_left
  intro x _
  apply UInt8.toNat_inj.1
  simp [Function.comp]
theorem nums_cells (l:List UInt8):(nums l).map (Value.int .u8) = u8v l:=by
  unfold nums u8v
  rw [List.map_map]
  rfl
theorem rd_nums {w:World} {A:Option Addr} {l:List UInt8} (h:Rd w A (u8v l)):∀ ad,A = some ad→∀ i,i < l.length→w.cell? (ad.add i) = some (.int .u8 ((nums l).getD i 0)):=by
  intro ad had i hi
  refine h.cells ad had i _ ?_
  rw [u8v_get l i hi]
  simp [nums,List.getD,hi]
theorem rd_in {w:World} {A:Option Addr} {l:List UInt8} (h:Rd w A (u8v l)):Lib.BytesIn w A l.length (nums l):=by
  intro hn
  obtain ⟨b,o,rfl,_,hc⟩:=h.form (by rw [u8v_length]; exact hn)
  refine ⟨b,o,rfl,fun i hi=>?_⟩
  have:=hc i (by rw [u8v_length]; exact hi)
  rw [this]
  simp [u8v,nums,List.getD,hi]

theorem count_any (A:Option Addr) (l:List UInt8) (n c g d:Nat) (w:World) (hn:n = l.length) (h0:0 < n) (hr:Rd w A (u8v l)) (hg:w.cell? ⟨g,0,none⟩ = some (.int .u8 255)) :
    Calls Tryz.prog 80 #[.slice A n c,.slice (some ⟨g,0,none⟩) 1 d] w fun e w'=>e = .returned (.int .i64 ((l.count 255:Nat):Int))∧w' = w:=by
  subst hn
  obtain ⟨b,o,rfl,_,_⟩:=hr.form (by rw [u8v_length]; exact h0)
  have h:=Tryz.bytes_Count_one_at ⟨b,o,none⟩ l.length c g 0 d (nums l) 255 w (nums_length l) (rd_nums hr _ rfl) hg
  rw [bytesOf_nums] at h
  exact h

theorem rd_far {w:World} {A:Option Addr} {xs:List Value} (h:Rd w A xs) {p:Addr} (u:Value) (hp:∀ g o,A = some ⟨g,o,none⟩→xs ≠ []→g ≠ p.block):Rd (w.setCell p u) A xs:=by
  rcases h with rfl | ⟨b,off,rfl,hc⟩
  · exact .inl rfl
  · by_cases hx:xs = []
    · exact .inl hx
    · refine .inr ⟨b,off,rfl,fun i v hv=>?_⟩
      rw [World.cell?_of_block (w:=w) (Below.heap_setCell w p u b (hp b off rfl hx))]
      exact hc i v hv

theorem clone_any (A:Option Addr) (l:List UInt8) (n c:Nat) (w:World) (hn:n = l.length) (hm:n ≤ 140737488355328) (hr:Rd w A (u8v l)) :
    Calls Tryz.prog 82 #[.slice A n c] w fun e w'=>∃ B c',e = .returned (.slice B n c')∧n ≤ c'∧Rd w' B (u8v l)∧Below w.heap.size w w'∧(∀ g o,B = some ⟨g,o,none⟩→u8v l ≠ []→w.heap.size ≤ g):=by
  subst hn
  cases A with
  | none =>
    have hl:=hr.none_
    have hl0:l.length = 0:=by rw [← u8v_length,hl]; rfl
    refine (Tryz.bytes_Clone_nil l.length c w).mono ?_
    rintro e w' ⟨rfl,rfl⟩
    exact ⟨none,0,by rw [hl0],by omega,hr,Below.refl _ _,fun g o h=>by cases h⟩
  | some ad =>
    refine (Tryz.bytes_Clone_at ad l.length c (nums l) w (nums_length l) hm (rd_nums hr ad rfl)).mono ?_
    rintro e w' ⟨v,rfl,ho,-,hb⟩
    rw [nums_cells] at ho
    obtain ⟨B,c',rfl,h1,_,h2,_,_⟩:=own_form ho
    refine ⟨B,c',rfl,h1,h2,hb,fun g o hB hne=>?_⟩
    have hpos:0 < l.length:=by
      rcases Nat.eq_zero_or_pos l.length with h | h
      · exact absurd (List.eq_nil_of_length_eq_zero (by rw [u8v_length]; exact h)) hne
      · exact h
    obtain ⟨g',hg',hle,_⟩:=own_at ho hpos
    rw [hB] at hg'
    injection hg' with hg'
    injection hg' with hg'
    rw [hg']
    exact hle

theorem equal_any (A B:Option Addr) (l m:List UInt8) (n k c d:Nat) (w:World) (hn:n = l.length) (hk:k = m.length) (h1:Rd w A (u8v l)) (h2:Rd w B (u8v m)) (r:Bool) (hr:r = decide (l = m)) :
    Calls Tryz.prog 83 #[.slice A n c,.slice B k d] w fun e w'=>e = .returned (.bool r)∧w' = w:=by
  subst hn hk
  have h:=Tryz.bytes_Equal_all A B l.length c m.length d (nums l) (nums m) w (nums_length l) (nums_length m) (rd_in h1) (rd_in h2)
  rw [bytesOf_nums,bytesOf_nums] at h
  have e:(l == m) = r:=by rw [hr]; by_cases h:l = m <;> simp [h]
  rwa [e] at h
end Go.Proofs.YtlaipigilikmbaaGreatDoor.GetW
