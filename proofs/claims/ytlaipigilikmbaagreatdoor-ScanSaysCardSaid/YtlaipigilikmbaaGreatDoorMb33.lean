/- Texts of this seat,put together: PackOf,RefLow,OpenOf. -/
import Derived.Test.YtlaipigilikmbaaGreatDoorMb32
import Derived.Test.YtlaipigilikmbaaGreatDoorMb13
import Derived.Test.YtlaipigilikmbaaGreatDoorMb12
import Derived.Test.YtlaipigilikmbaaGreatDoorMb14
set_option linter.unusedVariables false
set_option linter.unusedSimpArgs false
namespace Go.Proofs.YtlaipigilikmbaaGreatDoor.RefW
open Go.RowKit Fram Crc CrcW PackW

attribute [local irreducible] pack headP restP lowB
theorem headP_def (k lba seq len:Nat):(([165,UInt8.ofNat k] ++ lowB lba 4) ++ lowB seq 8) ++ lowB len 2 = headP k lba seq len:=by unfold headP; rfl

set_option maxRecDepth 100000 in
set_option maxHeartbeats 4000000 in
theorem packOf_any (n:Nat) (k lba seq:Int) (A:Option Addr) (d:List UInt8) (m c:Nat) (w:World) (h24:24 ≤ n) (hmax:n ≤ 4096) (hk1:1 ≤ k) (hk3:k ≤ 3) (hl0:0 ≤ lba) (hl:lba ≤ 4294967295) (hs0:0 ≤ seq) (hs:seq ≤ 4611686018427387904) (hm:m = d.length) (hmn:m + 21 ≤ n) (hr:Rd w A (u8v d)) :
    Calls Tryz.prog 35 #[.int .i64 n,frV k lba seq A m c] w fun e w'=>∃ B c',e = .returned (.slice B n c')∧n ≤ c'∧w'.ownsRow w.heap.size 5 1 (.slice B n c') n (u8v (pack n k.toNat lba.toNat seq.toNat d))∧Below w.heap.size w w':=by
  obtain ⟨i0,hi0,hz0,hz1,hz2⟩:=info_parts u8_info
  have HM:=hide hm
  clear hm
  have hb0:Below w.heap.size w (w.alloc (.cells #[.int .i64 k,.int .i64 lba,.int .i64 seq,.slice A m c] 53)):=(Below.refl _ _).alloc (Nat.le_refl _) _
  have hF0:Bk (w.alloc (.cells #[.int .i64 k,.int .i64 lba,.int .i64 seq,.slice A m c] 53)) w.heap.size 53 #[.int .i64 k,.int .i64 lba,.int .i64 seq,.slice A m c]:=Bk.new _ _ _
  have hz0s:(w.alloc (.cells #[.int .i64 k,.int .i64 lba,.int .i64 seq,.slice A m c] 53)).heap.size = w.heap.size + 1:=by simp
  unfold frV
  go_enter Tryz.func35,Tryz.ntmps35
  go_wp2_with fail
  have hrA:=hr.below hb0
  generalize w.alloc (.cells #[.int .i64 k,.int .i64 lba,.int .i64 seq,.slice A m c] 53) = w0 at hb0 hF0 hz0s hrA ⊢
  obtain ⟨f,hf⟩:∃ f,f = w.heap.size:=⟨_,rfl⟩
  rw [← hf] at hF0 hz0s
  rw [← hf]
  have HB:=hide hf
  clear hf
  have ho1:=own_new w0 (f + 1) 5 #[.int .u8 165,.int .u8 k] 2 (by omega) (by simp [maxLen]) rfl
  rw [hz0s] at ho1
  have e2:(#[Value.int .u8 165,.int .u8 k]:Array Value).toList = u8v [165,UInt8.ofNat k.toNat]:=two_bytes k (by omega) (by omega)
  rw [e2] at ho1
  have hF1:=hF0.alloc (.cells #[.int .u8 165,.int .u8 k] 5)
  have hb1:Below (f + 1) w0 (w0.alloc (.cells #[.int .u8 165,.int .u8 k] 5)):=(Below.refl _ _).alloc (by omega) _
  generalize w0.alloc (.cells #[.int .u8 165,.int .u8 k] 5) = w1 at ho1 hF1 hb1 ⊢
  have hs1:=hb1.size
  rw [hz0s] at hs1
  have c1:=hF1.at_ (i:=1) (u:=.int .i64 lba) rfl
  clear e2 hF1
  have HF:=hide hF0
  have hff:f < f + 1:=Nat.lt_succ_self f
  clear hF0
  refine (lowFirst_int lba 4 _ _ rfl (by omega) hl0 (by omega)).mono ?_
  rintro e w2 ⟨B2,k2,rfl,hk2,ho2,hb2'⟩
  have ho1':=own_below ho1 hb2' (Nat.le_refl _)
  have hr2:=own_rd ho2
  have hb2:=hb1.trans (hb2'.mono hs1)
  have hs2:f + 1 ≤ w2.heap.size:=by have:=hb2.size; omega
  have HL2:=hide (show 4 = (lowB lba.toNat 4).length by rw [lowB_length])
  have HF2:=hide (fun w' (h:Below (f + 1) w0 w')=>(HF.out.below h hff).at_ (i:=2) (u:=.int .i64 seq) rfl)
  have HF3:=hide (fun w' (h:Below (f + 1) w0 w')=>(HF.out.below h hff).at_ (i:=3) (u:=.slice A m c) rfl)
  clear c1 ho1 ho2 hb2' hb1 hs1
  go_wp2_with (first
    | (at_builtin
       refine wpList_app _ rfl (.tmp 18) (.tmp 19) rfl (f + 1) _ 2 _ rfl (by exact ho1') B2 4 k2 _ rfl HL2.out (by exact hr2) (by omega) hs2 ?_
       intro B3 k3 w3 hk3 ho3 hb3'
       have hb3:=hb2.trans hb3'
       have hs3:f + 1 ≤ w3.heap.size:=by have:=hb3.size; omega
       have c2:=HF2.out _ hb3))
  clear hr2 ho1'
  refine (lowFirst_int seq 8 _ _ rfl (by omega) hs0 (by omega)).mono ?_
  rintro e w4 ⟨B4,k4,rfl,hk4,ho4,hb4'⟩
  have ho3':=own_below ho3 hb4' (Nat.le_refl _)
  have hr4:=own_rd ho4
  have hb4:=hb3.trans (hb4'.mono hs3)
  have hs4:f + 1 ≤ w4.heap.size:=by have:=hb4.size; omega
  have HL4:=hide (show 8 = (lowB seq.toNat 8).length by rw [lowB_length])
  clear c2 ho3 ho4 hb4' hb3 hb3' hb2 hs3
  go_wp2_with (first
    | (at_builtin
       refine wpList_app _ rfl (.tmp 24) (.tmp 25) rfl (f + 1) _ (2 + 4) _ rfl (by exact ho3') B4 8 k4 _ rfl HL4.out (by exact hr4) (by omega) hs4 ?_
       intro B5 k5 w5 hk5 ho5 hb5'
       have hb5:=hb4.trans hb5'
       have hs5:f + 1 ≤ w5.heap.size:=by have:=hb5.size; omega
       have c3:=HF3.out _ hb5))
  clear hr4 ho3'
  refine (lowFirst_int (m:Int) 2 _ _ rfl (by omega) (by omega) (by omega)).mono ?_
  rintro e w6 ⟨B6,k6,rfl,hk6,ho6,hb6'⟩
  have ho5':=own_below ho5 hb6' (Nat.le_refl _)
  have hr6:=own_rd ho6
  have hb6:=hb5.trans (hb6'.mono hs5)
  have hs6:f + 1 ≤ w6.heap.size:=by have:=hb6.size; omega
  have HL6:=hide (show 2 = (lowB (m:Int).toNat 2).length by rw [lowB_length])
  clear c3 ho5 ho6 hb6' hb5 hb5' hb4 hs5
  have hrB:=hr
  go_wp2_with (first
    | (at_builtin
       refine wpList_app _ rfl (.tmp 31) (.tmp 32) rfl (f + 1) _ (2 + 4 + 8) _ rfl (by exact ho5') B6 2 k6 _ rfl HL6.out (by exact hr6) (by omega) hs6 ?_
       intro B7 k7 w7 hk7 ho7 hb7'
       have hb7:=hb6.trans hb7'
       have hs7:f + 1 ≤ w7.heap.size:=by have:=hb7.size; omega
       have c3:=HF3.out _ hb7
       have HHD:Hid (([165,UInt8.ofNat k.toNat] ++ lowB lba.toNat 4) ++ lowB seq.toNat 8 ++ lowB (m:Int).toNat 2 = headP k.toNat lba.toNat seq.toNat d.length):=hide (by rw [Int.toNat_natCast,HM.out]; exact headP_def _ _ _ _)
       rw [HHD.out] at ho7
       have HLT7:=hide (own_form ho7).choose_spec.choose_spec.2.2.2.2.2
       have hrd7:Rd w7 A (u8v d):=hrA.keep (fun j hj=>hb7.block j (by rw [hz0s] at hj; exact hj))
       have c3b:=HF3.out (w7.alloc (.cells #[] 5)) (hb7.alloc hs7 _)
       clear hr6 ho5')
    | (at_builtin
       refine wpList_app _ rfl (.tmp 34) (.tmp 36) rfl w7.heap.size _ 0 [] rfl (by exact own_empty w7) A m c d rfl HM.out (by exact hrd7.alloc _) (by omega) (by simp) ?_
       intro B8 k8 w8 hk8 ho8 hb8'
       have hb8:Below w7.heap.size w7 w8:=((Below.refl _ w7).alloc (Nat.le_refl _) _).trans hb8'))
  have H0:Hid (([]:List UInt8) ++ d = restP d m):=hide (by unfold restP; rw [HM.out]; simp)
  rw [H0.out] at ho8
  have hs7':=hb8.size
  have HDL:=hide (show d.length ≤ m by rw [HM.out]; exact Nat.le_refl _)
  clear hrd7 c3 c3b hb8' hk8
  go_loopw [7] (fun q wr=>∃ j:Nat,m ≤ j∧j + 21 ≤ n∧wr.ownsRow w7.heap.size 5 1 q j (u8v (restP d j))∧Below w7.heap.size w7 wr) (fun q _=>n - (match q with | .slice _ j _=>j | _=>0))
  case atStart=>exact ⟨m,Nat.le_refl _,hmn,by simpa using ho8,hb8⟩
  case round =>
    clear ho8 hb8 hs7'
    obtain ⟨j,hmj,hjn,hown,hb⟩:=hrel
    have hbs:=hb.size
    obtain ⟨D,c5,rfl,hc5,-,hr5,-,-⟩:=own_form hown
    by_cases hlt:j + 21 < n
    · have hd:(j:Int) < (n:Int) - 21:=by omega
      have HS:Hid (u8v (restP d (j + 1)) = u8v (restP d j) ++ [.int .u8 0]):=by rw [restP_succ (by have:=HDL.out; omega),u8v_append]; exact hide rfl
      generalize u8v (restP d j) = cs at hown HS
      clear hr5
      go_wp2_with (first
        | (at_builtin
           refine wpList_append_rd _ rfl (.tmp 43) (.tmp 44) 25 rfl w7.heap.size 5 i0 _ 1 Tryz.underlying25 hi0 hz0 hz1 hz2 rfl _ j cs rfl (by exact hown.alloc _) _ 1 1 [.int .u8 0] rfl rfl (Rd.one _ _ _) ?_ ?_ ?_ ?_ ?_
           · intro u hu; simp at hu; subst hu; rfl
           · simp only [maxLen]; omega
           · omega
           · simp; omega
           intro v' w9 hown9 hg9
           have hb9:=below_own (hb.alloc hbs _) (hown.alloc _) hg9 (by simp; omega) (Nat.le_refl _)
           obtain ⟨D6,c6,rfl,hc6,-,-,-,-⟩:=own_form hown9))
      go_roundw
      case rel=>exact ⟨j + 1,by omega,by omega,by rw [HS.out]; exact hown9,hb9⟩
      case measure=>simp; omega
    · have hd:¬ (j:Int) < (n:Int) - 21:=by omega
      have HJ:=hide (show j = n - 21 by omega)
      have HRL:=hide (restP_length (d:=d) (j:=j) (by have:=HDL.out; omega))
      have HR:Hid (u8v (restP d j ++ [90]) = u8v (restP d j) ++ [.int .u8 90]):=by rw [u8v_append]; exact hide rfl
      clear hr5 hlt
      go_wp2_with (first
        | (at_builtin
           refine wpList_append_rd _ rfl (.tmp 46) (.tmp 47) 25 rfl w7.heap.size 5 i0 _ 1 Tryz.underlying25 hi0 hz0 hz1 hz2 rfl _ j _ rfl (by exact hown.alloc _) _ 1 1 [.int .u8 90] rfl rfl (Rd.one _ _ _) ?_ ?_ ?_ ?_ ?_
           · intro u hu; simp at hu; subst hu; rfl
           · simp only [maxLen]; omega
           · omega
           · simp; omega
           intro vR w10 hoR hgR
           have hbR:=below_own (hb.alloc hbs _) (hown.alloc _) hgR (by simp; omega) (Nat.le_refl _)
           rw [← HR.out] at hoR
           obtain ⟨BR,kR,rfl,hkR,-,hrR,-,-⟩:=own_form hoR
           have HRLT:=hide (own_form hoR).choose_spec.choose_spec.2.2.2.2.2
           have hoH:=own_below ho7 hbR (Nat.le_refl _)
           have hrH:=own_rd hoH
           have HHL:=hide (show 16 = (headP k.toNat lba.toNat seq.toNat d.length).length by rw [headP_length])
           have HRL2:=hide (show j + 1 = (restP d j ++ [90]).length by rw [List.length_append,HRL.out]; rfl)
           clear hown hgR hb)
        | (at_builtin
           refine wpList_app _ rfl (.tmp 49) (.tmp 50) rfl w10.heap.size _ 0 [] rfl (by exact own_empty w10) B7 16 k7 _ rfl HHL.out (by exact hrH.alloc _) (by omega) (by simp) ?_
           intro B11 k11 w11 hk11 ho11 hb11'
           have hb11:Below w10.heap.size w10 w11:=((Below.refl _ w10).alloc (Nat.le_refl _) _).trans hb11'
           have hs11:=hb11.size
           clear hb11')
        | (at_builtin
           refine wpList_app _ rfl (.tmp 52) (.tmp 53) rfl w10.heap.size _ (0 + 16) _ rfl (by exact ho11.alloc _) (some ⟨w11.heap.size,0,none⟩) 4 4 [0,0,0,0] rfl rfl (by exact Rd.new w11 _ _ #[.int .u8 0,.int .u8 0,.int .u8 0,.int .u8 0] (0,0) _ rfl rfl) (by omega) (by simp; omega) ?_
           intro B12 k12 w12 hk12 ho12 hb12'
           have hb12:Below w10.heap.size w10 w12:=(hb11.alloc hs11 _).trans hb12'
           have hs12:=hb12.size
           have hrR12:=hrR.below hb12
           clear hb12' ho11 hb11 hs11)
        | (at_builtin
           refine wpList_app _ rfl (.tmp 55) (.tmp 56) rfl w10.heap.size _ (0 + 16 + 4) _ rfl (by exact ho12) BR (j + 1) kR _ rfl HRL2.out (by exact hrR12) (by omega) hs12 ?_
           intro B14 k14 w14 hk14 ho14 hb14'
           have hb14:=hb12.trans hb14'
           have hs14:=hb14.size
           clear hb14' ho12 hb12 hs12 hrR12))
      obtain ⟨C,hC⟩:∃ C,C = crc ((headP k.toNat lba.toNat seq.toNat d.length ++ [0,0,0,0]) ++ (restP d j ++ [90])):=⟨_,rfl⟩
      have hCl:=C.isLt
      have x4:IntKind.i64.wrap (C.toNat:Int) = (C.toNat:Int):=by rw [IntKind.wrap_i64]; omega
      have HC:=hide hC
      have HALL:=hide (show 0 + 16 + 4 + (j + 1) = ((headP k.toNat lba.toNat seq.toNat d.length ++ [0,0,0,0]) ++ (restP d j ++ [90])).length by rw [List.length_append,List.length_append,← HHL.out,← HRL2.out]; simp)
      rw [List.nil_append] at ho14
      clear hC
      refine (refCrc_any B14 _ _ k14 _ HALL.out (by omega) (own_rd ho14)).mono ?_
      rintro e w15 ⟨rfl,rfl⟩
      rw [← HC.out]
      clear ho14 hk14
      go_wp2_with fail
      refine (lowFirst_int (C.toNat:Int) 4 _ _ rfl (by omega) (by omega) (by omega)).mono ?_
      rintro e w16 ⟨B16,k16,rfl,hk16,ho16,hb16'⟩
      have hr16:=own_rd ho16
      have hb16:=hb14.trans (hb16'.mono hs14)
      have hs16:=hb16.size
      have hoH16:=own_below hoH hb16 (Nat.le_refl _)
      have hoR16:=own_below hoR hb16 (Nat.le_refl _)
      have HL16:=hide (show 4 = (lowB (C.toNat:Int).toNat 4).length by rw [lowB_length])
      have hb716:=hbR.trans (hb16.mono hbR.size)
      have hfb:Below (f + 1) w0 w16:=hb7.trans (hb716.mono hs7)
      have hsf:f + 1 ≤ w16.heap.size:=by have:=hfb.size; omega
      clear hoH hoR hrH hb16' hb14 hs14 hrR
      go_wp2_with (first
        | (at_builtin
           refine wpList_append_rd _ rfl (.tmp 63) (.tmp 64) 25 rfl (f + 1) 5 i0 _ 1 Tryz.underlying25 hi0 hz0 hz1 hz2 rfl _ 16 _ rfl (by exact hoH16) B16 4 k16 (u8v (lowB (C.toNat:Int).toNat 4)) rfl (by rw [u8v_length,← HL16.out]) (by exact hr16) (u8v_one _) ?_ ?_ ?_ ?_
           · simp only [maxLen]; omega
           · omega
           · exact hsf
           intro vO w17 hoO hgO
           have hbO:=below_own hfb hoH16 hgO hsf (Nat.le_refl _)
           have hoR17:w17.ownsRow w7.heap.size 5 1 (.slice BR (j + 1) kR) (j + 1) (u8v (restP d j ++ [90])):=by
             refine hoR16.kept hgO ?_
             by_cases hnn:(Value.slice BR (j + 1) kR).ownBlock = none
             · exact .inl hnn
             · right
               intro e
               obtain ⟨g,hg⟩:=Option.ne_none_iff_exists'.1 hnn
               have h1:=(HRLT.out g hg).1
               have h2:=(HLT7.out g (e.symm.trans hg)).2
               omega
           rw [← u8v_append] at hoO
           have hrR17:=own_rd hoR17
           obtain ⟨BO,kO,rfl,hkO,-,-,-,-⟩:=own_form hoO
           have hsO:f + 1 ≤ w17.heap.size:=by have:=hbO.size; omega
           clear hoR16 hoR17)
        | (at_builtin
           refine wpList_app _ rfl (.tmp 66) (.tmp 67) rfl (f + 1) _ (16 + 4) _ rfl (by exact hoO) BR (j + 1) kR _ rfl HRL2.out (by exact hrR17) (by omega) hsO ?_
           intro B18 k18 w18 hk18 ho18 hb18'
           have hb18:=hbO.trans hb18'))
      go_ret
      have en:16 + 4 + (j + 1) = n:=by have:=HJ.out; omega
      rw [en] at ho18 hk18
      have hP:headP k.toNat lba.toNat seq.toNat d.length ++ lowB ((C.toNat:Int)).toNat 4 ++ (restP d j ++ [90]) = pack n k.toNat lba.toNat seq.toNat d:=by
        rw [pack_halves,HC.out,Int.toNat_natCast,HJ.out]
      rw [hP] at ho18
      refine ⟨B18,k18, ?_,hk18,own_base (base':=w.heap.size) ho18 (by have:=HB.out; omega), ?_⟩
      · rw [show 20 + (j + 1) = n by omega]
        rfl
      · exact hb0.trans (hb18.mono (by have:=HB.out; omega))
end Go.Proofs.YtlaipigilikmbaaGreatDoor.RefW

namespace Go.Proofs.YtlaipigilikmbaaGreatDoor.RefW
open Go.RowKit Fram

theorem leN_cons (b:UInt8) (l:List UInt8):leN (b :: l) = b.toNat + 256 * leN l:=rfl

theorem leN_drop_le (l:List UInt8) (k:Nat):leN (l.drop k) ≤ leN l:=by
  induction k generalizing l with
  | zero=>simp
  | succ k ih =>
    cases l with
    | nil=>simp
    | cons b t =>
      rw [List.drop_succ_cons,leN_cons]
      have:=ih t
      omega

set_option maxHeartbeats 1000000 in
theorem ofLow_any (A:Option Addr) (l:List UInt8) (n cap:Nat) (w:World) (hn:n = l.length) (h0:0 < l.length) (h8:leN l < 9223372036854775808) (hl8:l.length ≤ 8) (hr:Rd w A (u8v l)) :
    Calls Tryz.prog 33 #[.slice A n cap] w fun e w'=>e = .returned (.int .i64 (leN l))∧w = w':=by
  obtain ⟨b,off,rfl,_,hc⟩:=hr.form (by simp [u8v]; omega)
  simp only [u8v,List.getElem_map,List.length_map] at hc
  have HC:=hide hc
  have HN:=hide hn
  have hn8:n ≤ 8:=by omega
  have H8:=hide h8
  clear hc hn h8 h0 hl8
  go_enter Tryz.func33,Tryz.ntmps33
  go_wp2
  go_loop [3,4] (fun c i=>∃ (k x:Nat),k ≤ n∧i = .int .i64 ((k:Int) - 1)∧c = .int .i64 x∧Hid (x = leN (l.drop k))) (fun _ i=>(intOf i + 1).toNat)
  case atStart=>exact ⟨n,0,by omega,rfl,rfl,hide (by rw [List.drop_of_length_le (by rw [← HN.out]; exact Nat.le_refl _)]; rfl)⟩
  case round =>
    obtain ⟨k,x,hk,rfl,rfl,HX⟩:=hrel
    by_cases hlt:0 < k
    · obtain ⟨j,rfl⟩:∃ j,k = j + 1:=⟨k - 1,by omega⟩
      have ej:(((j + 1:Nat):Int) - 1) = (j:Int):=by omega
      rw [ej]
      clear ej
      have hin:j < l.length:=by rw [← HN.out]; omega
      have hck:=HC.out j hin
      have hbd:=l[j].toNat_lt
      have e1:leN (l.drop j) = l[j].toNat + 256 * leN (l.drop (j + 1)):=by rw [List.drop_eq_getElem_cons hin,leN_cons]
      have hx:(x:Int) * 256 + (l[j].toNat:Int) ≤ 9223372036854775807:=by
        have h1:=leN_drop_le l j
        have h2:=H8.out
        rw [e1,← HX.out] at h1
        omega
      have HN2:Hid (l[j].toNat + 256 * x = leN (l.drop j)):=hide (by rw [e1,HX.out])
      clear e1
      generalize l[j].toNat = z at hck hbd hx HN2
      go_wp2
      go_round
      case rel=>exact ⟨j,z + 256 * x,by omega,by go_num,by congr 1; omega,HN2⟩
      case measure=>simp [intOf]
    · obtain rfl:k = 0:=by omega
      go_wp2
      go_ret
      exact ⟨by rw [HX.out]; rfl,rfl⟩
end Go.Proofs.YtlaipigilikmbaaGreatDoor.RefW

namespace Go.Proofs.YtlaipigilikmbaaGreatDoor.OpenW
open Go.RowKit PutW CrcW Fram Crc PackW FrameW GetW ApartW RefW

theorem ofLow_lba (l:List UInt8) (b o k c:Nat) (w:World) (hk:k = 4) (h:24 ≤ l.length) (hr:Rd w (some ⟨b,o,none⟩) (u8v l)) :
    Calls Tryz.prog 33 #[.slice (some ⟨b,o + 2,none⟩) k c] w fun e w'=>e = .returned (.int .i64 (lbaOf l))∧w = w':=by
  have hl:=lbaOf_lt l
  unfold lbaOf at hl ⊢
  exact ofLow_any _ ((l.drop 2).take 4) k c w (by simp; omega) (by simp; omega) (by omega) (by simp; omega) (rd_sub hr 2 4)
theorem ofLow_seq (l:List UInt8) (b o k c:Nat) (w:World) (hk:k = 8) (h:24 ≤ l.length) (hs:seqOf l < 9223372036854775808) (hr:Rd w (some ⟨b,o,none⟩) (u8v l)) :
    Calls Tryz.prog 33 #[.slice (some ⟨b,o + 6,none⟩) k c] w fun e w'=>e = .returned (.int .i64 (seqOf l))∧w = w':=by
  unfold seqOf at hs ⊢
  exact ofLow_any _ ((l.drop 6).take 8) k c w (by simp; omega) (by simp; omega) hs (by simp; omega) (rd_sub hr 6 8)
theorem ofLow_long (l:List UInt8) (b o k c:Nat) (w:World) (hk:k = 2) (h:24 ≤ l.length) (hr:Rd w (some ⟨b,o,none⟩) (u8v l)) :
    Calls Tryz.prog 33 #[.slice (some ⟨b,o + 14,none⟩) k c] w fun e w'=>e = .returned (.int .i64 (longOf l))∧w = w':=by
  have hl:=longOf_lt l
  unfold longOf at hl ⊢
  exact ofLow_any _ ((l.drop 14).take 2) k c w (by simp; omega) (by simp; omega) (by omega) (by simp; omega) (rd_sub hr 14 2)

theorem top_page {l:List UInt8} (h:24 ≤ l.length):((l.getD 13 0).toNat > 127 ↔ 9223372036854775808 ≤ seqOf l):=by
  have e1:(l.drop 6).take 8 = (l.drop 6).take 7 ++ [l.getD 13 0]:=by
    rw [List.take_succ_eq_append_getElem (show 7 < (l.drop 6).length by simp; omega)]
    simp [List.getD,show 13 < l.length by omega]
  have e2:seqOf l = leN ((l.drop 6).take 7) + (l.getD 13 0).toNat * 72057594037927936:=by
    unfold seqOf
    rw [e1,leN_snoc]
    rw [show ((l.drop 6).take 7).length = 7 by simp; omega]
  have h2:=leN_lt ((l.drop 6).take 7)
  rw [show ((l.drop 6).take 7).length = 7 by simp; omega] at h2
  have h3:(256:Nat) ^ 7 = 72057594037927936:=by decide
  omega
theorem seqI_of {l:List UInt8} (h:seqOf l < 9223372036854775808):seqI l = (seqOf l:Int):=by
  unfold seqI; rw [IntKind.wrap_i64]; omega
theorem seqI_neg {l:List UInt8} (h:9223372036854775808 ≤ seqOf l):seqI l < 0:=by
  have h1:seqOf l < 18446744073709551616:=by
    unfold seqOf
    have h:=leN_lt ((l.drop 6).take 8)
    have h2:(256:Nat) ^ ((l.drop 6).take 8).length ≤ 256 ^ 8:=Nat.pow_le_pow_right (by omega) (by simp; omega)
    have:(256:Nat) ^ 8 = 18446744073709551616:=by decide
    omega
  unfold seqI; rw [IntKind.wrap_i64]; omega

theorem blank_succ {l:List UInt8} {i:Nat} (h:i < l.length):((l.take (i + 1)).count 255 = i + 1 ↔ (l.take i).count 255 = i∧l[i] = 255):=by
  rw [List.take_succ_eq_append_getElem h,List.count_append]
  have h1:=List.count_le_length (a:=(255:UInt8)) (l:=l.take i)
  have h2:(l.take i).length = i:=by simp; omega
  by_cases e:l[i] = 255
  · simp [e]
  · rw [List.count_singleton]
    have:(l[i] == 255) = false:=by simpa using e
    rw [this]
    simp [e]
    omega

theorem ret_openOf (w:World) (g:Nat) (a:Act) (k1 l1 s1:Int) (B:Option Addr) (m c:Nat) (st:Int) (Q:Ending→World→Prop) (h2:a.tmps[2]?.getD undef = .pointer (some ⟨g,0,none⟩)) (h3:a.tmps[3]?.getD undef = .int .i64 st) (hd:a.defers = [])
    (hB:Bk w g 53 #[.int .i64 k1,.int .i64 l1,.int .i64 s1,.slice B m c]) (hq:Q (.returned (.tuple #[frV k1 l1 s1 B m c,.int .i64 st])) w):bodyPost Tryz.prog Tryz.f19 Q .ret a w:=by
  have c0:=hB.at_ (i:=0) (u:=.int .i64 k1) rfl
  have c1:=hB.at_ (i:=1) (u:=.int .i64 l1) rfl
  have c2:=hB.at_ (i:=2) (u:=.int .i64 s1) rfl
  have c3:=hB.at_ (i:=3) (u:=.slice B m c) rfl
  refine bodyPost_ret (v:=.tuple #[frV k1 l1 s1 B m c,.int .i64 st]) ?_ hd hq
  unfold frV
  simp [results,Tryz.results19,go_sem,c0,c1,c2,c3,h2,h3]

def OpenOfPost (w:World) (l:List UInt8) (n:Nat) (e:Ending) (w':World):Prop:=Below w.heap.size w w' ∧
      ((¬ Good l n∧∃ st:Int,e = .returned (.tuple #[noFrame,.int .i64 st])∧((0 < n∧l.count 255 = n∧st = 1) ∨ (¬ (0 < n∧l.count 255 = n)∧st = 3))) ∨
      (Good l n∧∃ B c',e = .returned (.tuple #[frV (kindOf l) (lbaOf l) (seqI l) B (longOf l) c',.int .i64 2])∧longOf l ≤ c'∧Rd w' B (u8v (dataOf l))))

attribute [local irreducible] pack kindOf lbaOf seqOf seqI longOf dataOf
set_option maxRecDepth 100000 in
set_option maxHeartbeats 4000000 in
theorem openOf_any (A:Option Addr) (l:List UInt8) (n c:Nat) (w:World) (hn:n = l.length) (hnc:n ≤ c) (hcm:c ≤ 9223372036854775807) (hr:Rd w A (u8v l)) :
    Calls Tryz.prog 19 #[.slice A n c] w (OpenOfPost w l n):=by
  have HN:=hide hn
  have hb0:Below w.heap.size w (w.alloc (.cells #[.int .i64 0,.int .i64 0,.int .i64 0,.slice none 0 0] 53)):=(Below.refl _ _).alloc (Nat.le_refl _) _
  have hR:=w1_res w
  have hrr:=hr.below hb0
  clear hn
  go_enter Tryz.func19,Tryz.ntmps19
  go_wp2_with fail
  generalize w.alloc (.cells #[.int .i64 0,.int .i64 0,.int .i64 0,.slice none 0 0] 53) = w1 at hb0 hR hrr ⊢
  obtain ⟨g,hg⟩:∃ g,g = w.heap.size:=⟨_,rfl⟩
  rw [← hg] at hR ⊢
  have HG:=hide hg
  have hlt:=hR.lt
  clear hg
  go_loop [5,6] (fun v i=>∃ (j:Nat) (bl:Bool),j ≤ n∧i = .int .i64 j∧v = .bool bl∧Hid (bl = decide (0 < n∧(l.take j).count 255 = j))) (fun _ i=>n - (intOf i).toNat)
  case atStart=>exact ⟨0,decide (0 < n),by omega,rfl,by first | rfl | (congr 1; simp) | simp,hide (by simp)⟩
  case round =>
    obtain ⟨j,bl,hj,rfl,rfl,HB⟩:=hrel
    by_cases hlt2:j < n
    · have hd:decide ((j:Int) < (n:Int)) = true:=by simp; omega
      obtain ⟨b,off,rfl,hck⟩:=hrr.at_ (i:=j) (by rw [u8v_length,← HN.out]; exact hlt2)
      have hjl:j < l.length:=by rw [← HN.out]; exact hlt2
      simp only [u8v,List.getElem_map] at hck
      have HS:=hide (blank_succ hjl)
      cases bl with
      | false =>
        have HB2:Hid (false = decide (0 < n∧(l.take (j + 1)).count 255 = j + 1)):=by
          refine hide (decide_eq_false ?_).symm
          rintro ⟨h1,h2⟩
          exact of_decide_eq_false HB.out.symm ⟨h1,(HS.out.1 h2).1⟩
        go_wp2_with fail
        go_round
        case rel=>exact ⟨j + 1,false,by omega,by go_num,rfl,HB2⟩
        case measure=>simp [intOf]; omega
      | true =>
        by_cases he:l[j] = 255
        · have HB2:Hid (true = decide (0 < n∧(l.take (j + 1)).count 255 = j + 1)):=by
            refine hide (decide_eq_true ?_).symm
            have:=of_decide_eq_true HB.out.symm
            exact ⟨this.1,HS.out.2 ⟨this.2,he⟩⟩
          have ht:((l[j].toNat:Int) == 255) = true:=by rw [he]; rfl
          clear he
          go_wp2_with fail
          go_round
          case rel=>exact ⟨j + 1,true,by omega,by go_num,rfl,HB2⟩
          case measure=>simp [intOf]; omega
        · have HB2:Hid (false = decide (0 < n∧(l.take (j + 1)).count 255 = j + 1)):=by
            refine hide (decide_eq_false ?_).symm
            rintro ⟨h1,h2⟩
            exact he (HS.out.1 h2).2
          have ht:((l[j].toNat:Int) == 255) = false:=by
            rw [beq_eq_false_iff_ne]
            intro e
            exact he (UInt8.toNat_inj.1 (by have e2:((255:UInt8)).toNat = 255:=rfl; omega))
          clear he
          go_wp2_with fail
          go_round
          case rel=>exact ⟨j + 1,false,by omega,by go_num,rfl,HB2⟩
          case measure=>simp [intOf]; omega
    · obtain rfl:j = n:=by omega
      have HC:Hid (bl = decide (0 < j∧l.count 255 = j)):=hide (by rw [HB.out,List.take_of_length_le (by rw [← HN.out]; exact Nat.le_refl _)])
      clear HB
      cases bl with
      | true =>
        have hc:=of_decide_eq_true HC.out.symm
        have HE:Hid (¬ Good l j∧0 < j∧l.count 255 = j):=by
          refine hide ⟨fun hgd=>?_,hc⟩
          have h0:=(good_ends hgd).2.2.2.1
          have h2:=List.count_eq_length.1 (hc.2.trans HN.out) (l.getD 0 0) (by rw [show l.getD 0 0 = l[0]'(by have:=HN.out; omega) from by simp [List.getD,show 0 < l.length by have:=HN.out; omega]]; exact List.getElem_mem _)
          rw [h0] at h2
          exact absurd h2 (by decide)
        clear hc
        have q0:=hR.at_ (i:=0) (u:=.int .i64 0) rfl
        have q1:=hR.at_ (i:=1) (u:=.int .i64 0) rfl
        have q2:=hR.at_ (i:=2) (u:=.int .i64 0) rfl
        have q3:=hR.at_ (i:=3) (u:=.slice none 0 0) rfl
        have f0:=hR.free 0
        have f1:=hR.free 1
        have f2:=hR.free 2
        have f3:=hR.free 3
        go_wp2_with fail
        refine ret_openOf _ g _ 0 0 0 none 0 0 1 _ rfl rfl rfl ((((hR.put 0 (.int .i64 0)).put 1 (.int .i64 0)).put 2 (.int .i64 0)).put 3 (.slice none 0 0)) ⟨?_,.inl ⟨HE.out.1,1,rfl,.inl ⟨HE.out.2.1,HE.out.2.2,rfl⟩⟩⟩
        exact (((hb0.setCell (p:=⟨g,0,none⟩) (by rw [HG.out]; exact Nat.le_refl _) (.int .i64 0)).setCell (p:=⟨g,1,none⟩) (by rw [HG.out]; exact Nat.le_refl _) (.int .i64 0)).setCell (p:=⟨g,2,none⟩) (by rw [HG.out]; exact Nat.le_refl _) (.int .i64 0)).setCell (p:=⟨g,3,none⟩) (by rw [HG.out]; exact Nat.le_refl _) (.slice none 0 0)
      | false =>
        have HNB:Hid (¬ (0 < j∧l.count 255 = j)):=hide (of_decide_eq_false HC.out.symm)
        clear HC
        have q0:=hR.at_ (i:=0) (u:=.int .i64 0) rfl
        have q1:=hR.at_ (i:=1) (u:=.int .i64 0) rfl
        have q2:=hR.at_ (i:=2) (u:=.int .i64 0) rfl
        have q3:=hR.at_ (i:=3) (u:=.slice none 0 0) rfl
        have f0:=hR.free 0
        have f1:=hR.free 1
        have f2:=hR.free 2
        have f3:=hR.free 3
        have HBR:Hid (∀ w',Bk w' g 53 #[.int .i64 0,.int .i64 0,.int .i64 0,.slice none 0 0]→Below w.heap.size w w'→¬ Good l j→OpenOfPost w l j (.returned (.tuple #[noFrame,.int .i64 3])) ((((w'.setCell ⟨g,0,none⟩ (.int .i64 0)).setCell ⟨g,1,none⟩ (.int .i64 0)).setCell ⟨g,2,none⟩ (.int .i64 0)).setCell ⟨g,3,none⟩ (.slice none 0 0))):=by
          refine hide fun w' _ hbx hng=>⟨?_,.inl ⟨hng,3,rfl,.inr ⟨HNB.out,rfl⟩⟩⟩
          exact (((hbx.setCell (p:=⟨g,0,none⟩) (by rw [HG.out]; exact Nat.le_refl _) (.int .i64 0)).setCell (p:=⟨g,1,none⟩) (by rw [HG.out]; exact Nat.le_refl _) (.int .i64 0)).setCell (p:=⟨g,2,none⟩) (by rw [HG.out]; exact Nat.le_refl _) (.int .i64 0)).setCell (p:=⟨g,3,none⟩) (by rw [HG.out]; exact Nat.le_refl _) (.slice none 0 0)
        by_cases h24:j < 24
        · have HNG:Hid (¬ Good l j):=hide fun hgd=>by have:=(good_ends hgd).2.1; omega
          go_wp2_with fail
          exact ret_openOf _ g _ 0 0 0 none 0 0 3 _ rfl rfl rfl ((((hR.put 0 (.int .i64 0)).put 1 (.int .i64 0)).put 2 (.int .i64 0)).put 3 (.slice none 0 0)) (HBR.out _ hR hb0 HNG.out)
        have h24':24 ≤ j:=by omega
        clear h24
        by_cases hmx:4096 < j
        · have HNG:Hid (¬ Good l j):=hide fun hgd=>by have:=(good_ends hgd).2.2.1; omega
          have hmx':(4096:Int) < (j:Int):=by omega
          go_wp2_with fail
          exact ret_openOf _ g _ 0 0 0 none 0 0 3 _ rfl rfl rfl ((((hR.put 0 (.int .i64 0)).put 1 (.int .i64 0)).put 2 (.int .i64 0)).put 3 (.slice none 0 0)) (HBR.out _ hR hb0 HNG.out)
        have hmx':j ≤ 4096:=by omega
        clear hmx
        obtain ⟨b,o,rfl,hbw,hcell⟩:=hrr.form (by rw [u8v_length,← HN.out]; omega)
        have hl24:24 ≤ l.length:=by rw [← HN.out]; exact h24'
        have htop:=top_page hl24
        have hc13:w1.cell? ⟨b,o + 13,none⟩ = some (.int .u8 ((l.getD 13 0).toNat:Int)):=by
          have:=hcell 13 (by rw [u8v_length]; omega)
          rw [this]
          simp [u8v,List.getD,show 13 < l.length by omega]
        have hc1:w1.cell? ⟨b,o + 1,none⟩ = some (.int .u8 (kindOf l)):=by
          have:=hcell 1 (by rw [u8v_length]; omega)
          rw [this]
          unfold kindOf
          simp [u8v,List.getD,show 1 < l.length by omega]
        have hk0:0 ≤ kindOf l∧kindOf l ≤ 255:=by
          unfold kindOf
          have:=(l.getD 1 0).toNat_lt
          omega
        obtain ⟨z,hz⟩:∃ z,z = (l.getD 13 0).toNat:=⟨_,rfl⟩
        rw [← hz] at hc13 htop
        have hzl:z < 256:=by have:=(l.getD 13 0).toNat_lt; omega
        have HL24:=hide hl24
        have HTOP:=hide htop
        have hj13:(13:Int) < (j:Int):=by omega
        have hj1:(1:Int) < (j:Int):=by omega
        clear hz hcell hl24 htop hr
        by_cases h13:127 < z
        · have HNG:Hid (¬ Good l j):=hide fun hgd=>by
            have h1:=seqI_neg (HTOP.out.1 h13)
            have h2:=hgd.2.1.2.2.2.2.2.2.1
            omega
          have h13':(127:Int) < (z:Int):=by omega
          clear h13
          go_wp2_with fail
          exact ret_openOf _ g _ 0 0 0 none 0 0 3 _ rfl rfl rfl ((((hR.put 0 (.int .i64 0)).put 1 (.int .i64 0)).put 2 (.int .i64 0)).put 3 (.slice none 0 0)) (HBR.out _ hR hb0 HNG.out)
        have h13':¬ (127:Int) < (z:Int):=by omega
        have HSQL:Hid (seqOf l < 9223372036854775808):=hide (by have:=HTOP.out; omega)
        have HSQI:=hide (seqI_of HSQL.out)
        clear h13
        have x0:IntKind.i64.wrap (kindOf l) = kindOf l:=by rw [IntKind.wrap_i64]; omega
        have y1:¬ c = 2:=by omega
        have y2:¬ c = 6:=by omega
        have y3:¬ c = 14:=by omega
        have y5:¬ c = 20:=by omega
        have z1:(6:Int) ≤ (c:Int):=by omega
        have z2:(14:Int) ≤ (c:Int):=by omega
        have z3:(16:Int) ≤ (c:Int):=by omega
        go_wp2_with fail
        have hF2:=Bk.new w1 53 #[.int .i64 (kindOf l),.int .i64 0,.int .i64 0,.slice none 0 0]
        have hR2:=hR.alloc (.cells #[.int .i64 (kindOf l),.int .i64 0,.int .i64 0,.slice none 0 0] 53)
        have hr2:=hrr.alloc (.cells #[.int .i64 (kindOf l),.int .i64 0,.int .i64 0,.slice none 0 0] 53)
        have hb2:=hb0.alloc hb0.size (.cells #[.int .i64 (kindOf l),.int .i64 0,.int .i64 0,.slice none 0 0] 53)
        have hwG:w.heap.size ≤ w1.heap.size:=hb0.size
        generalize w1.alloc (.cells #[.int .i64 (kindOf l),.int .i64 0,.int .i64 0,.slice none 0 0] 53) = w2 at hF2 hR2 hr2 hb2 ⊢
        clear q0 q1 q2 q3 f0 f1 f2 f3 hc1 hc13 hrr hR hb0
        obtain ⟨G,hG⟩:∃ G,G = w1.heap.size:=⟨_,rfl⟩
        rw [← hG] at hF2 hbw hlt hwG
        rw [← hG]
        clear hG
        have hne:¬ g = G:=by omega
        have hne':¬ G = g:=by omega
        obtain ⟨L,hL0⟩:∃ L,L = longOf l:=⟨_,rfl⟩
        obtain ⟨sq,hsq⟩:∃ sq:Int,sq = (seqOf l:Int):=⟨_,rfl⟩
        obtain ⟨lb,hlb⟩:∃ lb:Int,lb = (lbaOf l:Int):=⟨_,rfl⟩
        have hLl:L < 65536:=by rw [hL0]; exact longOf_lt l
        have HLL:=hide hL0
        have HSQ:=hide hsq
        have HLB:=hide hlb
        have hsq0:0 ≤ sq:=by omega
        have hlb0:0 ≤ lb:=by omega
        clear hL0 hsq hlb
        refine (ofLow_lba l b o _ _ _ rfl HL24.out hr2).mono ?_
        rintro e w3 ⟨rfl,rfl⟩
        rw [← HLB.out]
        have d1:=hF2.at_ (i:=1) (u:=.int .i64 0) rfl
        have fr1:=hF2.free 1
        go_wp2_with fail
        have hF3:=hF2.put 1 (.int .i64 lb)
        have hR3:=hR2.far (p:=⟨G,1,none⟩) hne (.int .i64 lb)
        have hr3:=rd_far hr2 (p:=⟨G,1,none⟩) (.int .i64 lb) (fun k o hk hx e=>by injection hk with hk; injection hk with hk; simp at e; omega)
        have hb3:=hb2.setCell (p:=⟨G,1,none⟩) hwG (.int .i64 lb)
        generalize w2.setCell ⟨G,1,none⟩ (.int .i64 lb) = w3 at hF3 hR3 hr3 hb3 ⊢
        clear d1 fr1 hF2 hR2 hr2 hb2
        refine (ofLow_seq l b o _ _ _ rfl HL24.out HSQL.out hr3).mono ?_
        rintro e w4 ⟨rfl,rfl⟩
        rw [← HSQ.out]
        have d2:=hF3.at_ (i:=2) (u:=.int .i64 0) rfl
        have fr2:=hF3.free 2
        go_wp2_with fail
        have hF4:=hF3.put 2 (.int .i64 sq)
        have hR4:=hR3.far (p:=⟨G,2,none⟩) hne (.int .i64 sq)
        have hr4:=rd_far hr3 (p:=⟨G,2,none⟩) (.int .i64 sq) (fun k o hk hx e=>by injection hk with hk; injection hk with hk; simp at e; omega)
        have hb4:=hb3.setCell (p:=⟨G,2,none⟩) hwG (.int .i64 sq)
        generalize w3.setCell ⟨G,2,none⟩ (.int .i64 sq) = w4 at hF4 hR4 hr4 hb4 ⊢
        clear d2 fr2 hF3 hR3 hr3 hb3
        refine (ofLow_long l b o _ _ _ rfl HL24.out hr4).mono ?_
        rintro e w5 ⟨rfl,rfl⟩
        rw [← HLL.out]
        by_cases hL:L + 21 ≤ j
        rotate_left
        · have HNG:Hid (¬ Good l j):=hide fun hgd=>by have:=hgd.1; have:=HLL.out; omega
          have hL':(j:Int) - 21 < (L:Int):=by omega
          have q0:=hR4.at_ (i:=0) (u:=.int .i64 0) rfl
          have q1:=hR4.at_ (i:=1) (u:=.int .i64 0) rfl
          have q2:=hR4.at_ (i:=2) (u:=.int .i64 0) rfl
          have q3:=hR4.at_ (i:=3) (u:=.slice none 0 0) rfl
          have f0:=hR4.free 0
          have f1:=hR4.free 1
          have f2:=hR4.free 2
          have f3:=hR4.free 3
          clear hL
          go_wp2_with fail
          exact ret_openOf _ g _ 0 0 0 none 0 0 3 _ rfl rfl rfl ((((hR4.put 0 (.int .i64 0)).put 1 (.int .i64 0)).put 2 (.int .i64 0)).put 3 (.slice none 0 0)) (HBR.out _ hR4 hb4 HNG.out)
        have hL':¬ (j:Int) - 21 < (L:Int):=by omega
        have x1:(20 + (L:Int)).toNat = 20 + L:=by omega
        have x3:20 + (L:Int) ≤ (c:Int):=by omega
        have x6:20 + L - 20 = L:=by omega
        have x8:(0:Int) ≤ 20 + (L:Int):=by omega
        have x10:(20:Int) ≤ 20 + (L:Int):=by omega
        have HDL:Hid (L = (dataOf l).length):=hide (by rw [HLL.out]; exact data_length (by rw [← HLL.out,← HN.out]; omega))
        have hrd4:Rd w4 (some ⟨b,o + 20,none⟩) (u8v (dataOf l)):=rd_data hr4
        have hltG:=hF4.lt
        have hltg:=hR4.lt
        have d3:=(hF4.alloc (.cells #[] 5)).at_ (i:=3) (u:=.slice none 0 0) rfl
        go_wp2_with (first
          | (at_builtin
             refine wpList_app _ rfl _ _ rfl w4.heap.size _ 0 [] rfl (by exact own_empty w4) (some ⟨b,o + 20,none⟩) L (c - 20) (dataOf l) rfl HDL.out (by exact hrd4.alloc _) (by omega) (by simp) ?_
             intro B6 k6 w6 hk6 ho6 hb6'
             have hb46:Below w4.heap.size w4 w6:=((Below.refl _ w4).alloc (Nat.le_refl _) _).trans hb6'
             have hF6:=hF4.below hb46 hltG
             have hR6:=hR4.below hb46 hltg
             have hr6:=hr4.below hb46
             have hb6:=hb4.trans (hb46.mono hb4.size)
             have d0:=hF6.at_ (i:=0) (u:=.int .i64 (kindOf l)) rfl
             have d1:=hF6.at_ (i:=1) (u:=.int .i64 lb) rfl
             have d2:=hF6.at_ (i:=2) (u:=.int .i64 sq) rfl
             have d3:=hF6.at_ (i:=3) (u:=.slice none 0 0) rfl
             have fr3:=hF6.free 3
             have hrB6:=own_rd ho6
             have HBF:Hid (∀ k o,B6 = some ⟨k,o,none⟩→u8v ([] ++ dataOf l) ≠ []→G < k∧g < k):=by
               refine hide fun k o hk hx=>?_
               have hpos:0 < 0 + L:=by
                 rcases Nat.eq_zero_or_pos L with h | h
                 · exfalso
                   apply hx
                   rw [List.nil_append]
                   exact List.eq_nil_of_length_eq_zero (by rw [u8v_length,← HDL.out]; exact h)
                 · omega
               obtain ⟨g',hg',hle,_⟩:=own_at ho6 hpos
               rw [hk] at hg'
               injection hg' with hg'
               injection hg' with hg'
               omega))
        have hF7:=hF6.put 3 (.slice B6 (0 + L) k6)
        have hR7:=hR6.far (p:=⟨G,3,none⟩) hne (.slice B6 (0 + L) k6)
        have hr7:=rd_far hr6 (p:=⟨G,3,none⟩) (.slice B6 (0 + L) k6) (fun k o hk hx e=>by injection hk with hk; injection hk with hk; simp at e; omega)
        have hrB7:=rd_far hrB6 (p:=⟨G,3,none⟩) (.slice B6 (0 + L) k6) (fun k o hk hx e=>by have:=HBF.out k o hk hx; simp at e; omega)
        have hb7:=hb6.setCell (p:=⟨G,3,none⟩) hwG (.slice B6 (0 + L) k6)
        simp only [Nat.zero_add] at hF7 hR7 hr7 hrB7 hb7
        rw [List.nil_append] at hrB7
        generalize w6.setCell ⟨G,3,none⟩ (.slice B6 L k6) = w7 at hF7 hR7 hr7 hrB7 hb7 ⊢
        have hltG7:=hF7.lt
        have hltg7:=hR7.lt
        clear d0 d1 d2 d3 fr3 hF6 hR6 hr6 hb6 hb46 hb6' ho6 hF4 hR4 hr4 hb4 hrd4
        by_cases hfit:Fits j L (kindOf l) lb sq
        rotate_left
        · have HNG:Hid (¬ Good l j):=hide fun hgd=>by
            have h2:=hgd.2.1
            rw [HSQI.out,← HSQ.out,← HLL.out,← HLB.out] at h2
            exact hfit h2
          have HFI:=hide hfit
          clear hfit
          refine (packFault_range j (kindOf l) lb sq B6 L k6 _ HFI.out).mono ?_
          rintro e w8 ⟨rfl,hb8⟩
          have hR8:=hR7.below hb8 hltg7
          have hb08:=hb7.trans (hb8.mono hb7.size)
          have q0:=hR8.at_ (i:=0) (u:=.int .i64 0) rfl
          have q1:=hR8.at_ (i:=1) (u:=.int .i64 0) rfl
          have q2:=hR8.at_ (i:=2) (u:=.int .i64 0) rfl
          have q3:=hR8.at_ (i:=3) (u:=.slice none 0 0) rfl
          have f0:=hR8.free 0
          have f1:=hR8.free 1
          have f2:=hR8.free 2
          have f3:=hR8.free 3
          go_wp2_with fail
          exact ret_openOf _ g _ 0 0 0 none 0 0 3 _ rfl rfl rfl ((((hR8.put 0 (.int .i64 0)).put 1 (.int .i64 0)).put 2 (.int .i64 0)).put 3 (.slice none 0 0)) (HBR.out _ hR8 hb08 HNG.out)
        have hfit':=hfit
        obtain ⟨o1,o2,o3,o4,o5,o6,o7,o8⟩:=hfit'
        have HFI:=hide hfit
        clear hfit
        refine (packFault_ok j (kindOf l) lb sq B6 L k6 _ HFI.out (by omega)).mono ?_
        rintro e w8 ⟨rfl,hb8⟩
        have hR8:=hR7.below hb8 hltg7
        have hF8:=hF7.below hb8 hltG7
        have hr8:=hr7.below hb8
        have hrB8:=hrB7.below hb8
        have hb08:=hb7.trans (hb8.mono hb7.size)
        have hltG8:=hF8.lt
        have hltg8:=hR8.lt
        have d0:=hF8.at_ (i:=0) (u:=.int .i64 (kindOf l)) rfl
        have d1:=hF8.at_ (i:=1) (u:=.int .i64 lb) rfl
        have d2:=hF8.at_ (i:=2) (u:=.int .i64 sq) rfl
        have d3:=hF8.at_ (i:=3) (u:=.slice B6 L k6) rfl
        clear hF7 hR7 hr7 hrB7 hb7 hb8 hltG7 hltg7
        go_wp2_with fail
        refine (packOf_any j (kindOf l) lb sq B6 (dataOf l) L k6 _ h24' hmx' o3 o4 o5 o6 o7 o8 HDL.out hL hrB8).mono ?_
        rintro e w9 ⟨B9,k9,rfl,hk9,ho9,hb9⟩
        have hr9:=own_rd ho9
        have hR9:=hR8.below hb9 hltg8
        have hF9:=hF8.below hb9 hltG8
        have hrP9:=hr8.below hb9
        have hrB9:=hrB8.below hb9
        have hb09:=hb08.trans (hb9.mono hb08.size)
        have HPL:=hide (pack_length j (kindOf l).toNat lb.toNat sq.toNat (dataOf l) (by rw [← HDL.out]; omega)).symm
        have HPK:Hid (pack j (kindOf l).toNat lb.toNat sq.toNat (dataOf l) = pack j (kindOf l).toNat (lbaOf l) (seqI l).toNat (dataOf l)):=hide (by rw [HSQI.out,← HSQ.out,HLB.out,Int.toNat_natCast])
        clear d0 d1 d2 d3 hF8 hR8 hr8 hrB8 hb08 hb9 hltG8 hltg8 ho9
        by_cases heq:pack j (kindOf l).toNat lb.toNat sq.toNat (dataOf l) = l
        rotate_left
        · have HNG:Hid (¬ Good l j):=hide fun hgd=>heq (HPK.out.trans hgd.2.2)
          have HRES:=hide (show false = decide (pack j (kindOf l).toNat lb.toNat sq.toNat (dataOf l) = l) from (decide_eq_false heq).symm)
          clear heq
          go_wp2_with fail
          refine (same_any B9 (some ⟨b,o,none⟩) _ l j j k9 c _ HPL.out HN.out (by omega) hr9 hrP9 _ HRES.out).mono ?_
          rintro e w10 ⟨rfl,dd,rfl⟩
          have hR10:=hR9.drewN dd
          have hb10:=below_drewN hb09 dd
          have q0:=hR10.at_ (i:=0) (u:=.int .i64 0) rfl
          have q1:=hR10.at_ (i:=1) (u:=.int .i64 0) rfl
          have q2:=hR10.at_ (i:=2) (u:=.int .i64 0) rfl
          have q3:=hR10.at_ (i:=3) (u:=.slice none 0 0) rfl
          have f0:=hR10.free 0
          have f1:=hR10.free 1
          have f2:=hR10.free 2
          have f3:=hR10.free 3
          generalize w9.drewN dd = w10 at hR10 hb10 q0 q1 q2 q3 f0 f1 f2 f3 ⊢
          go_wp2_with fail
          exact ret_openOf _ g _ 0 0 0 none 0 0 3 _ rfl rfl rfl ((((hR10.put 0 (.int .i64 0)).put 1 (.int .i64 0)).put 2 (.int .i64 0)).put 3 (.slice none 0 0)) (HBR.out _ hR10 hb10 HNG.out)
        have HGD:Hid (Good l j):=hide ⟨by rw [← HLL.out]; exact hL,by rw [HSQI.out,← HSQ.out,← HLL.out,← HLB.out]; exact HFI.out,HPK.out.symm.trans heq⟩
        have HRES:=hide (show true = decide (pack j (kindOf l).toNat lb.toNat sq.toNat (dataOf l) = l) from (decide_eq_true heq).symm)
        clear heq
        go_wp2_with fail
        refine (same_any B9 (some ⟨b,o,none⟩) _ l j j k9 c _ HPL.out HN.out (by omega) hr9 hrP9 _ HRES.out).mono ?_
        rintro e w10 ⟨rfl,dd,rfl⟩
        have hR10:=hR9.drewN dd
        have hF10:=hF9.drewN dd
        have hb10:=below_drewN hb09 dd
        have hrB10:=hrB9.drewN dd
        have q0:=hR10.at_ (i:=0) (u:=.int .i64 0) rfl
        have q1:=hR10.at_ (i:=1) (u:=.int .i64 0) rfl
        have q2:=hR10.at_ (i:=2) (u:=.int .i64 0) rfl
        have q3:=hR10.at_ (i:=3) (u:=.slice none 0 0) rfl
        have f0:=hR10.free 0
        have f1:=hR10.free 1
        have f2:=hR10.free 2
        have f3:=hR10.free 3
        have d0:=hF10.at_ (i:=0) (u:=.int .i64 (kindOf l)) rfl
        have d1:=hF10.at_ (i:=1) (u:=.int .i64 lb) rfl
        have d2:=hF10.at_ (i:=2) (u:=.int .i64 sq) rfl
        have d3:=hF10.at_ (i:=3) (u:=.slice B6 L k6) rfl
        generalize w9.drewN dd = w10 at hR10 hF10 hb10 hrB10 q0 q1 q2 q3 f0 f1 f2 f3 d0 d1 d2 d3 ⊢
        have HBG:Hid (∀ k o,B6 = some ⟨k,o,none⟩→u8v (dataOf l) ≠ []→k ≠ g):=hide fun k o hk hx=>by have:=HBF.out k o hk (by simpa using hx); omega
        go_wp2_with fail
        refine ret_openOf _ g _ (kindOf l) lb sq B6 L k6 2 _ rfl rfl rfl ((((hR10.put 0 (.int .i64 (kindOf l))).put 1 (.int .i64 lb)).put 2 (.int .i64 sq)).put 3 (.slice B6 L k6)) ⟨?_,.inr ⟨HGD.out,B6,k6,by rw [HSQI.out,← HSQ.out,← HLB.out,← HLL.out],by rw [← HLL.out]; omega, ?_⟩⟩
        · exact (((hb10.setCell (p:=⟨g,0,none⟩) (by rw [HG.out]; exact Nat.le_refl _) (.int .i64 (kindOf l))).setCell (p:=⟨g,1,none⟩) (by rw [HG.out]; exact Nat.le_refl _) (.int .i64 lb)).setCell (p:=⟨g,2,none⟩) (by rw [HG.out]; exact Nat.le_refl _) (.int .i64 sq)).setCell (p:=⟨g,3,none⟩) (by rw [HG.out]; exact Nat.le_refl _) (.slice B6 L k6)
        · exact rd_far (rd_far (rd_far (rd_far hrB10 (p:=⟨g,0,none⟩) (.int .i64 (kindOf l)) HBG.out) (p:=⟨g,1,none⟩) (.int .i64 lb) HBG.out) (p:=⟨g,2,none⟩) (.int .i64 sq) HBG.out) (p:=⟨g,3,none⟩) (.slice B6 L k6) HBG.out
end Go.Proofs.YtlaipigilikmbaaGreatDoor.OpenW
