/- Texts of this seat,put together: RecBat. -/
import Derived.Test.YtlaipigilikmbaaGreatDoorMb35
namespace Go.Proofs.YtlaipigilikmbaaGreatDoor
noncomputable section
set_option linter.unusedVariables false
set_option linter.unusedSimpArgs false
namespace RecW
open RowKit Rec BufW I64
set_option maxRecDepth 20000 in
set_option maxHeartbeats 8000000 in
theorem batch_any(B rb:Nat)(A:Option Addr)(c:Nat)(l:List UInt8)(a:Nat)(w:World)(h:Rdr w B rb A c l a)(ha:a≤l.length) :
 Calls Tryz.prog 28 #[ptr rb] w (fF w B rb A c l a):=by
 have hmf:∀ (fn:Fn) (first cap:Array Value) (w:World),(Instr.makeFunc fn first cap).run Tryz.prog w=.ok (.func fn first cap) w:=fun _ _ _ _=>rfl;have HS:=hide (start_bs w B rb c a A l h);have HA:=hide ha;have hB:B≤w.heap.size:=Nat.le_trans h.low (Nat.le_of_lt h.bk.lt);have f3:Fr B never w (((w.alloc (.cells #[.pointer (some ⟨rb,0,none⟩)] 75)).alloc (.cells #[.slice none 0 0] 27)).alloc (.cells #[.bool false] 4)):=(((Fr.refl _ _ _).alloc hB _).alloc (by simp;omega) _).alloc (by simp;omega) _;have r1:=(f3.bk h.bk (fun h=>h)).at_ (i:=1) (u:=.int .i64 a) rfl;have s1:(start w rb a).cell? ⟨w.heap.size,0,none⟩=some (.pointer (some ⟨rb,0,none⟩)):=HS.out.b1.at_ (i:=0) rfl;have HNUM:=hide (dE B rb A c l a (start w rb a) HS.out.rdr ha);unfold start at s1;unfold ptr at HNUM;clear f3 hB h ha;unfold ptr
 go_enter_defers Tryz.func28,Tryz.ntmps28
 go_wp2_with fail
 refine HNUM.out.mono ?_;intro e W1 hp;generalize hg4:w.heap.size+1+1+1=g4 at *;generalize hg3:w.heap.size+1+1=g3 at *;generalize hg2:w.heap.size+1=g2 at *;generalize hg1:w.heap.size=g1 at *;have HG1:=hide hg1;clear hg1 hg2 hg3 hg4 r1 s1 HNUM
 cases hd:dec (l.drop a) with
 |none =>
  obtain⟨rfl,a',hr1⟩:=hp.2.2 hd;have HS1:=HS.out.step hp.1 hr1;exact eY HS1 (decB_none1 hd) _ rfl rfl
 |some p =>
  obtain⟨n,l1⟩:=p;obtain⟨rfl,hr1⟩:=hp.2.1 n l1 hd;have HS1:=hide (HS.out.step hp.1 hr1);have HD:=hide hd
  have hnl:l1.length≤l.length:=by
   have h1:=(iI hd).1;have:=congrArg List.length h1;rw[List.length_drop,List.length_append]at this;omega
  have HNL:=hide hnl
  have HCUT:Hid (l1=l.drop (l.length-l1.length)):=hide (by
   have h1:=(iI hd).1;have h2:=congrArg List.length h1;rw[List.length_drop,List.length_append]at h2
   have h3:(l.drop a).drop (num n).length=l1:=by rw[h1,List.drop_left]
   rw[List.drop_drop]at h3;rw[←h3]
   congr 1
   rw[List.length_drop];have:=HA.out
   omega)
  clear hp hr1 hd hnl HS;by_cases hbig:n≤64
  ·have hd1:decide ((n:Int)>64)=false:=by simp;omega
   have HSA:=hide (HS1.out.alloc (.cells #[] 64));have o0:=HSA.out.b2.at_ (i:=0) (u:=.slice none 0 0) rfl;have z0:=HSA.out.b2.free 0
   have HLS0:Hid (LS w ((W1.alloc (.cells #[] 64)).setCell ⟨g2,0,none⟩ (.slice (some ⟨W1.heap.size,0,none⟩) 0 0)) B rb A c l a g1 g2 g3 g4 n l1 0 [] (.slice (some ⟨W1.heap.size,0,none⟩) 0 0) (l.length-l1.length)):=hide
    ⟨HSA.out.out _,aV.out (aV.empty W1 (Nat.le_trans (Nat.le_of_eq rfl) HS1.out.fr.size)) HSA.out.b2 (by decide) _ 0,rfl,(fun e he=>by cases he),by omega,HCUT.out⟩
   clear HSA
   go_wp2_with fail
   generalize (W1.alloc (.cells #[] 64)).setCell ⟨g2,0,none⟩ (.slice (some ⟨W1.heap.size,0,none⟩) 0 0)=W2 at *;clear o0 z0
   go_loopw [24] (fun k wr=>∃ (j:Nat) (es:List Ent) (v:Value) (a1:Nat),j≤n∧k=.int .i64 j∧Hid (LS w wr B rb A c l a g1 g2 g3 g4 n l1 j es v a1)) (fun k _=>n-(intOf k).toNat)
   case atStart=>exact⟨0,[],_,_,by omega,rfl,HLS0⟩
   case round =>
    obtain⟨j,es,v,a1,hj,rfl,HL⟩:=hrel;by_cases hlt:j<n
    ·have hd2:decide ((j:Int)<(n:Int))=true:=by simp;omega
     have q1:=HL.out.bs.b1.at_ (i:=0) (u:=ptr rb) rfl;have HN1:=hide (dE B rb A c l a1 wr.drew (HL.out.bs.rdr.drewN 1) HL.out.le);unfold ptr at q1 HN1;have HB0:=hide (HL.out.bs.step (W':=wr.drew) (Fr.refl B rdrT wr).drew (HL.out.bs.rdr.drewN 1));have HV0:=hide (HL.out.ents.fr (Fr.refl B never wr).drew (fun _ _ h=>h));have q1d:wr.drew.cell? ⟨g1,0,none⟩=some (.pointer (some ⟨rb,0,none⟩)):=q1
     cases hx:dec (l.drop a1) with
     |none =>
      have HDE:Hid (decE (l.drop a1)=none):=hide (by unfold decE;rw[hx];rfl);have HX:=hide hx;clear hx
      go_wp2_with fail
      go_region_with (first
       |(go_at_call 45
         with_reducible refine HN1.out.mono ?_
         intro e9 W5 hp;obtain⟨rfl,a9,hr9⟩:=hp.2.2 HX.out;have HB9:=hide (HB0.out.step hp.1 hr9);clear hp hr9
         suffices hfake:wpAny Tryz.prog .any #[] (fun _ _ _=>True) 0 #[] {tmps:=#[],defers:=[]} w from eY HB9.out (lq HD.out (by rw[HL.out.cut];exact kV HL.out.ok (by rw[HL.out.len];exact hlt) HDE.out)) _ rfl rfl))
      all_goals trivial
     |some px =>
      obtain⟨x,r1⟩:=px;obtain⟨c1,le1⟩:=dec_cut hx
      cases hy:dec r1 with
      |none =>
       rw[c1]at hy
       have HDE:Hid (decE (l.drop a1)=none):=hide (by
        unfold decE
        have h2:dec r1=none:=by rw[c1];exact hy
        rw[hx,Option.bind_some,h2]
        rfl)
       have HX:=hide hx;have HY:=hide hy;have HE1:=hide le1;clear hx hy c1 le1
       go_wp2_with fail
       go_region_with (first
        |(go_at_call 45
          with_reducible refine HN1.out.mono ?_
          intro e2 W5 hp;obtain⟨rfl,hr5⟩:=hp.2.1 _ _ HX.out;have HB5:=hide (HB0.out.step hp.1 hr5);have q2d:W5.cell? ⟨g1,0,none⟩=some (.pointer (some ⟨rb,0,none⟩)):=HB5.out.b1.at_ (i:=0) rfl;have HN2:=hide (dE B rb A c l (l.length-r1.length) W5 HB5.out.rdr HE1.out);unfold ptr at HN2
          clear hp hr5)
        |(go_at_call 45
          with_reducible refine HN2.out.mono ?_
          intro e9 W6 hp;obtain⟨rfl,a9,hr9⟩:=hp.2.2 HY.out;have HB9:=hide (HB5.out.step hp.1 hr9);clear hp hr9
          suffices hfake:wpAny Tryz.prog .any #[] (fun _ _ _=>True) 0 #[] {tmps:=#[],defers:=[]} w from eY HB9.out (lq HD.out (by rw[HL.out.cut];exact kV HL.out.ok (by rw[HL.out.len];exact hlt) HDE.out)) _ rfl rfl))
       all_goals trivial
      |some py =>
       obtain⟨y,r2⟩:=py;rw[c1]at hy;obtain⟨c2,le2⟩:=dec_cut hy
       cases hz:dec r2 with
       |none =>
        rw[c2]at hz
        have HDE:Hid (decE (l.drop a1)=none):=hide (by
         unfold decE
         have h2:dec r1=some (y,r2):=by rw[c1];exact hy
         have h3:dec r2=none:=by rw[c2];exact hz
         rw[hx,Option.bind_some,h2,Option.bind_some,h3]
         rfl)
        have HX:=hide hx;have HY:=hide hy;have HZ:=hide hz;have HE1:=hide le1;have HE2:=hide le2;clear hx hy hz c1 c2 le1 le2
        go_wp2_with fail
        go_region_with (first
         |(go_at_call 45
           with_reducible refine HN1.out.mono ?_
           intro e2 W5 hp;obtain⟨rfl,hr5⟩:=hp.2.1 _ _ HX.out;have HB5:=hide (HB0.out.step hp.1 hr5);have q2d:W5.cell? ⟨g1,0,none⟩=some (.pointer (some ⟨rb,0,none⟩)):=HB5.out.b1.at_ (i:=0) rfl;have HN2:=hide (dE B rb A c l (l.length-r1.length) W5 HB5.out.rdr HE1.out);unfold ptr at HN2
           clear hp hr5)
         |(go_at_call 45
           with_reducible refine HN2.out.mono ?_
           intro e3 W6 hp;obtain⟨rfl,hr6⟩:=hp.2.1 _ _ HY.out;have HB6:=hide (HB5.out.step hp.1 hr6);have q3d:W6.cell? ⟨g1,0,none⟩=some (.pointer (some ⟨rb,0,none⟩)):=HB6.out.b1.at_ (i:=0) rfl;have HN3:=hide (dE B rb A c l (l.length-r2.length) W6 HB6.out.rdr HE2.out);unfold ptr at HN3
           clear hp hr6)
         |(go_at_call 45
           with_reducible refine HN3.out.mono ?_
           intro e9 W7 hp;obtain⟨rfl,a9,hr9⟩:=hp.2.2 HZ.out;have HB9:=hide (HB6.out.step hp.1 hr9);clear hp hr9
           suffices hfake:wpAny Tryz.prog .any #[] (fun _ _ _=>True) 0 #[] {tmps:=#[],defers:=[]} w from eY HB9.out (lq HD.out (by rw[HL.out.cut];exact kV HL.out.ok (by rw[HL.out.len];exact hlt) HDE.out)) _ rfl rfl))
        all_goals trivial
       |some pz =>
        obtain⟨z,r3⟩:=pz;rw[c2]at hz;obtain⟨c3,le3⟩:=dec_cut hz;have HX:=hide hx;have HY:=hide hy;have HZ:=hide hz;have HC1:=hide c1;have HC2:=hide c2;have HC3:=hide c3;have HE1:=hide le1;have HE2:=hide le2;have HE3:=hide le3;clear hx hy hz c1 c2 c3 le1 le2 le3
        go_wp2_with fail
        go_region_held3 (fun w'=>w'.cell? ⟨g1,0,none⟩=some (.pointer (some ⟨rb,0,none⟩)))
         (first|exact q1d|exact q2d|exact q3d|exact q4d)
         (first
          |(go_at_call 45
            with_reducible refine HN1.out.mono ?_
            intro e2 W5 hp;obtain⟨rfl,hr5⟩:=hp.2.1 _ _ HX.out;have HB5:=hide (HB0.out.step hp.1 hr5);have HV5:=hide (HV0.out.fr hp.1 (fun _ _=>by simp only[rdrT];decide));have q2d:W5.cell? ⟨g1,0,none⟩=some (.pointer (some ⟨rb,0,none⟩)):=HB5.out.b1.at_ (i:=0) rfl;have HN2:=hide (dE B rb A c l (l.length-r1.length) W5 HB5.out.rdr HE1.out);unfold ptr at HN2
            clear hp hr5)
          |(go_at_call 45
            with_reducible refine HN2.out.mono ?_
            intro e3 W6 hp;obtain⟨rfl,hr6⟩:=hp.2.1 _ _ HY.out;have HB6:=hide (HB5.out.step hp.1 hr6);have HV6:=hide (HV5.out.fr hp.1 (fun _ _=>by simp only[rdrT];decide));have q3d:W6.cell? ⟨g1,0,none⟩=some (.pointer (some ⟨rb,0,none⟩)):=HB6.out.b1.at_ (i:=0) rfl;have HN3:=hide (dE B rb A c l (l.length-r2.length) W6 HB6.out.rdr HE2.out);unfold ptr at HN3
            clear hp hr6)
          |(go_at_call 45
            with_reducible refine HN3.out.mono ?_
            intro e4 W7 hp;obtain⟨rfl,hr7⟩:=hp.2.1 _ _ HZ.out;have HB7:=hide (HB6.out.step hp.1 hr7);have HV7:=hide (HV6.out.fr hp.1 (fun _ _=>by simp only[rdrT];decide));have q4d:W7.cell? ⟨g1,0,none⟩=some (.pointer (some ⟨rb,0,none⟩)):=HB7.out.b1.at_ (i:=0) rfl
            clear hp hr7))
        all_goals (
         have HBA:=hide (HB7.out.alloc (.cells #[.int .i64 (x:Int),.int .i64 (y:Int),.int .i64 (z:Int)] 64));have o0:=HB7.out.b2.at_ (i:=0) (u:=v) rfl;have HVA:=hide (HV7.out.alloc (.cells #[.int .i64 (x:Int),.int .i64 (y:Int),.int .i64 (z:Int)] 64));have HKA:=hide (Bk.new W7 64 #[.int .i64 (x:Int),.int .i64 (y:Int),.int .i64 (z:Int)]);have HLN:Hid (es.length≤1000000000):=hide (by have:=HL.out.len;omega);have HBS:Hid (w.heap.size≤(W7.alloc (.cells #[.int .i64 (x:Int),.int .i64 (y:Int),.int .i64 (z:Int)] 64)).heap.size):=hide (by have:=HB7.out.fr.size;simp;omega);clear q1 q1d q2d q3d q4d HN1 HN2 HN3 HB0 HB5 HB6 HV0 HV5 HV6
         go_wp2_with (first
          |(refine wpList_ent rfl (.tmp 32) (.tmp 37) rfl rfl HVA.out (x,y,z) W7.heap.size 1 rfl HKA.out HLN.out HBS.out ?_
            intro g9 cap9 w9 hv9 hf9;have HB9:=hide (HBA.out.rows hf9 (fun _ _ _ h=>h));have p0:=HB9.out.b2.at_ (i:=0) (u:=v) rfl;have p1:=HB9.out.b2.free 0;have HV9:=hide hv9
            clear hv9 hf9)
          |fail))
        all_goals (
         have hde:decE (l.drop a1)=some ((x,y,z),r3):=by
          unfold decE
          have h2:dec r1=some (y,r2):=by rw[HC1.out];exact HY.out
          have h3:dec r2=some (z,r3):=by rw[HC2.out];exact HZ.out
          rw[HX.out,Option.bind_some,h2,Option.bind_some,h3];rfl
         obtain⟨hc,hok⟩:=mF.1 hde;refine⟨⟨j+1,es++[(x,y,z)],_,l.length-r3.length,by omega,by go_num,hide ⟨HB9.out.out _,aV.out HV9.out HB9.out.b2 (by decide) _ 0,by rw[List.length_append,HL.out.len];rfl,?_,HE3.out,?_⟩⟩,by simp[intOf];omega⟩
         ·intro e he;rcases List.mem_append.1 he with he|he
          ·exact HL.out.ok e he
          ·have:e=(x,y,z):=by simpa using he
           rw[this];exact hok
         ·rw[HL.out.cut,jP,hc,←HC3.out,List.append_assoc]
          simp[ents])
    ·have hd2:decide ((j:Int)<(n:Int))=false:=by simp;omega
     obtain⟨hbs,hents,hlen,hok,hle,hcut⟩:=HL.out
     have hpos:a+1≤a1∧a1≤l.length:=by
      have h1:=(iI HD.out).1;have h2:=congrArg List.length h1;rw[hcut,List.length_drop,List.length_append,List.length_append,List.length_drop]at h2;have:=num_len n;omega
     have HDE:Hid (decEs n l1=some (es,l.drop a1)):=hide (jh.2 ⟨hcut,by omega,hok⟩);obtain⟨b,off,hA,-,hcells⟩:=hbs.rdr.src.2.2.2.form (by rw[aC];omega);have hlc:=hbs.rdr.src.1;have HR:=hide (rd_cut hbs.rdr.src.2.2.2 hA hpos.1 hpos.2);have HAA:=hide hA;have q1:=hbs.b1.at_ (i:=0) (u:=ptr rb) rfl;have q2:=hbs.rdr.bk.at_ (i:=0) (u:=.slice A l.length c) rfl;have q3:=hbs.rdr.bk.at_ (i:=1) (u:=.int .i64 a1) rfl;have q4:=hbs.b4.at_ (i:=0) (u:=.int .i64 a) rfl;rw[hA]at q2;clear hA;have HB:=hide hbs;have HV:=hide hents;have HC:=hide (rd_cut_len (l:=l) hpos.1 hpos.2)
     have hca:¬ c=a:=by omega
     have k1:(a:Int)≤(a1:Int):=by omega
     have k2:(a1:Int)≤(c:Int):=by omega
     have HSM:=hide hbs.rdr.src.2.1;have HPOS:=hide hpos;obtain⟨S,hS⟩:∃ S,S=(Crc.crc ((l.drop a).take (a1-a))).toNat:=⟨_,rfl⟩;have HSS:=hide hS;unfold ptr at q1;clear hbs hents hlen hok hle hcut hcells hS hlc hpos
     go_wp2_with fail
     have HCRC:Hid (∀(d:Nat),Calls Tryz.prog 24 #[.slice (some ⟨b,off+a,none⟩) (a1-a) (c-a)] (wr.drewN d) fun e w'=>e=.returned (.int .u32 S)∧w'=wr.drewN d):=hide (fun d=>by
      have h1:=CrcW.crc_any (some ⟨b,off+a,none⟩) ((l.drop a).take (a1-a)) (a1-a) (c-a) (wr.drewN d) HC.out.symm (by have:=HPOS.out;have:=HSM.out;omega) (HR.out.drewN d);rw[←HSS.out]at h1
      exact h1.mono fun e w' ⟨h,h'⟩=>⟨h,h'.symm⟩)
     have k1n:a≤a1:=by have:=HPOS.out;omega
     have k2n:a1≤c:=by omega
     clear k1 k2
     go_quiet (first
      |(go_at_call 24
        exact Calls.quiet_of_same (HCRC.out _)))
     have HB2:=hide (HB.out.step (W':=wr.drewN nq) ⟨below_drewN (Below.refl _ _) nq,fun _ _ h _=>h⟩ (HB.out.rdr.drewN nq));have HV2:Hid (aV (wr.drewN nq) w.heap.size v es):=hide (HV.out.fr (T:=never) (B:=B) ⟨below_drewN (Below.refl _ _) nq,fun _ _ h _=>h⟩ (fun _ _ h=>h));clear q1 q2 q3 q4 HCRC HB HV HR;generalize wr.drewN nq=W3 at *;have HRA:Hid (a1≤l.length):=hide HPOS.out.2
     go_wp2_with fail
     go_loopw [51] (fun k wr=>∃ i:Nat,i≤4∧k=.int .i64 i∧Hid (BS w wr B rb A c l a g1 g2 g3 g4 (a1+i) v∧aV wr w.heap.size v es∧(l.drop a1).take i=(le4 S).take i∧a1+i≤l.length)) (fun k _=>4-(intOf k).toNat)
     case atStart=>exact⟨0,by omega,rfl,hide ⟨HB2.out,HV2.out,by simp,HRA.out⟩⟩
     case round =>
      obtain⟨i,hi,rfl,HI⟩:=hrel;by_cases hlt4:i<4
      ·have hd4:decide ((i:Int)<4)=true:=by simp;omega
       have q1:=HI.out.1.b1.at_ (i:=0) (u:=ptr rb) rfl;have q1d:wr.drew.cell? ⟨g1,0,none⟩=some (ptr rb):=q1;have HID:=hide (HI.out.1.step (W':=wr.drew) (Fr.refl B rdrT wr).drew (HI.out.1.rdr.drewN 1));have HVD:=hide (HI.out.2.1.fr (Fr.refl B never wr).drew (fun _ _ h=>h));unfold ptr at q1 q1d;obtain⟨T,hT⟩:∃ T,T=S / 2^(8*i):=⟨_,rfl⟩
       have hsh:Op.shift .shr .u32 (S:Int) .i64 (IntKind.i64.wrap (8*(i:Int)))=pure (.int .u32 (T:Int)):=by rw[hT];exact shr8 S i hlt4
       obtain⟨U,hU⟩:∃ U,U=T%256:=⟨_,rfl⟩
       have hcv:IntKind.u8.wrap (T:Int)=(U:Int):=by rw[IntKind.wrap_u8];omega
       have HLE:Hid ((le4 S)[i]? = some (UInt8.ofNat U)):=hide (by rw[hU,hT];exact le4_at S i hlt4)
       have hU256:U<256:=by omega
       have HUU:=hide hU256;clear hT hU hU256
       cases hb:l[a1+i]? with
       |none =>
        have HBY:=hide (byte_short B rb A c l (a1+i) wr.drew HID.out.rdr (by rw[List.getElem?_eq_none_iff]at hb;exact hb))
        have HNB:Hid (decB (l.drop a)=none):=hide (decB_none4 HD.out HDE.out (fun h=>by
         have h2:=h.2;rw[List.length_drop]at h2;rw[List.getElem?_eq_none_iff]at hb
         omega))
        unfold ptr at HBY;clear hb
        go_wp2_with fail
        first
         |(go_region_with (first
          |(go_at_call 46
            refine HBY.out.mono ?_;rintro e w7 ⟨rfl,d7,rfl⟩;have HB7:=hide (HID.out.step (W':=wr.drew.drewN d7) ⟨below_drewN (Below.refl _ _) d7,fun _ _ h _=>h⟩ (HID.out.rdr.drewN d7))
            suffices hfake:wpAny Tryz.prog .any #[] (fun _ _ _=>True) 0 #[] {tmps:=#[],defers:=[]} w from eY HB7.out HNB.out _ rfl rfl)))
         |fail
        all_goals trivial
       |some x =>
        have HBY:=hide (byte_ok B rb A c l (a1+i) wr.drew HID.out.rdr x hb);unfold ptr at HBY;have HX:=hide hb;clear hb;by_cases heq:x.toNat=U
        ·have hne:((x.toNat:Int) != (U:Int))=false:=by simp[heq]
         have HEQ:=hide heq;clear heq
         go_wp2_with fail
         go_region_held3 (fun w'=>w'.cell? ⟨g1,0,none⟩=some (.pointer (some ⟨rb,0,none⟩)))
          (first|exact q1d|exact q7d)
          (first
          |(go_at_call 46
            with_reducible refine HBY.out.mono ?_
            rintro e w7 ⟨rfl,hr7,hf7⟩;have HB7:=hide (HID.out.step hf7 hr7);have HV7:=hide (HVD.out.fr hf7 (fun _ _=>by simp only[rdrT];decide));have q7d:w7.cell? ⟨g1,0,none⟩=some (.pointer (some ⟨rb,0,none⟩)):=HB7.out.b1.at_ (i:=0) rfl
            clear hr7 hf7))
         all_goals go_wp2_with fail
         all_goals (
          have HTK:Hid ((l.drop a1).take (i+1)=(le4 S).take (i+1)):=hide (by
           rw[List.take_add_one,List.take_add_one,HI.out.2.2.1,HLE.out,List.getElem?_drop,HX.out]
           congr 2
           apply congrArg
           apply UInt8.toNat_inj.1
           rw[HEQ.out,UInt8.toNat_ofNat'];have:=HUU.out
           omega)
          have HLT:Hid (a1+(i+1)≤l.length):=hide (by have:=(List.getElem?_eq_some_iff.1 HX.out).1;omega)
          exact⟨⟨i+1,by omega,by go_num,hide ⟨HB7.out,HV7.out,HTK.out,HLT.out⟩⟩,by simp[intOf];omega⟩)
        ·have hne:((x.toNat:Int) != (U:Int))=true:=by simp;omega
         have HEQ:=hide heq;clear heq
         go_wp2_with fail
         go_region_held3 (fun w'=>w'.cell? ⟨g1,0,none⟩=some (.pointer (some ⟨rb,0,none⟩)))
          (first|exact q1d|exact q7d)
          (first
          |(go_at_call 46
            with_reducible refine HBY.out.mono ?_
            rintro e w7 ⟨rfl,hr7,hf7⟩;have HB7:=hide (HID.out.step hf7 hr7);have HV7:=hide (HVD.out.fr hf7 (fun _ _=>by simp only[rdrT];decide));have q7d:w7.cell? ⟨g1,0,none⟩=some (.pointer (some ⟨rb,0,none⟩)):=HB7.out.b1.at_ (i:=0) rfl
            clear hr7 hf7))
         all_goals go_wp2_with fail
         all_goals (
          have HNB:decB (l.drop a)=none:=decB_none4 HD.out HDE.out (fun h=>by
           have h1:=h.1
           have h2:((l.drop a1).take 4)[i]? = (le4 S)[i]?:=by
            rw[h1,aO HD.out HDE.out HSS.out HPOS.out]
           rw[List.getElem?_take_of_lt hlt4,List.getElem?_drop,HX.out,HLE.out]at h2;injection h2 with h2
           apply HEQ.out
           rw[h2,UInt8.toNat_ofNat'];have:=HUU.out
           omega)
          exact eY HB7.out HNB _ rfl rfl)
      ·have hd4:decide ((i:Int)<4)=false:=by simp;omega
       have hi4:i=4:=by omega
       have HDB:Hid (decB (l.drop a)=some (es,l.drop (a1+4))):=hide (by
        have h4:4≤(l.drop a1).length:=by rw[List.length_drop];have:=HI.out.2.2.2;omega
        have ht:(l.drop a1).take 4=le4 S:=by
         have:=HI.out.2.2.1;rw[hi4]at this;rw[this];rfl
        unfold decB
        rw[HD.out,Option.bind_some,if_pos hbig,HDE.out,Option.bind_some,if_pos ⟨by rw[aO HD.out HDE.out HSS.out HPOS.out];exact ht,h4⟩,List.drop_drop])
       have hbs:=HI.out.1;rw[hi4]at hbs;have q2:=hbs.b2.at_ (i:=0) (u:=v) rfl;have q3:=hbs.b3.at_ (i:=0) (u:=.bool false) rfl;have z2:=hbs.b2.free 0;have z3:=hbs.b3.free 0;have n1:¬ g3=g2:=bk_ne hbs.b3 hbs.b2 (by decide);have n2:¬ g2=g3:=fun e=>n1 e.symm;have HBS:=hide hbs;have HLE2:Hid (a1+4≤l.length):=hide (by have:=HI.out.2.2.2;omega);have HVV:=hide HI.out.2.1;obtain⟨Av,cv,rfl⟩:=HI.out.2.1.form;clear hbs hi4
       go_wp2_with fail
       have k2:=(HBS.out.b2.put 0 (.slice Av es.length cv)).far (p:=⟨g3,0,none⟩) n2 (.bool true);have k3:=(HBS.out.b3.far (p:=⟨g2,0,none⟩) n1 (.slice Av es.length cv)).put 0 (.bool true);have HB8:=hide (HBS.out.out (.slice Av es.length cv));have HV8:=hide (aV.out HVV.out HBS.out.b2 (by decide) (.slice Av es.length cv) 0);have HV9:=hide (aV.out HV8.out HB8.out.b3 (by decide) (.bool true) 0);have f9:=HB8.out.fr.setNew HB8.out.hB (p:=⟨g3,0,none⟩) HB8.out.l3 (.bool true);have e9:=Fr.set (T:=rowK 4) (p:=⟨g3,0,none⟩) HB8.out.b3 (Nat.le_trans HB8.out.hB HB8.out.l3) rfl (.bool true);have r9:=HB8.out.rdr.fr e9 (fun _ _=>by simp only[rowK];decide) (fun _ _=>by simp only[rowK];decide);refine bat_done (v:=.slice Av es.length cv) (fF w B rb A c l a) _ rfl rfl (k2.at_ (i:=0) rfl) (k3.at_ (i:=0) rfl) (fF.good HDB.out f9 HV9.out ?_)
       have e:l.length-(l.drop (a1+4)).length=a1+4:=by rw[List.length_drop];have:=HLE2.out;omega
       rw[e];exact r9
  ·have hd1:decide ((n:Int)>64)=true:=by simp;omega
   go_wp2_with fail
   exact eY HS1.out (decB_none2 HD.out hbig) _ rfl rfl
end RecW
