/- The walk of granaryref1.NewestOf. -/
import Derived.Test.YtlaipigilikmbaaGreatDoorNewWMb
import Derived.Outline
set_option linter.unusedVariables false
namespace Go.Proofs.YtlaipigilikmbaaGreatDoor.RefS
open Go Go.RowKit Go.Proofs Go.Proofs.YtlaipigilikmbaaGreatDoor Go.Proofs.YtlaipigilikmbaaGreatDoor.Ph Go.Proofs.YtlaipigilikmbaaGreatDoor.OpenW Go.Proofs.YtlaipigilikmbaaGreatDoor.PackW Go.Proofs.YtlaipigilikmbaaGreatDoor.Cl
theorem counts_iff (pg:Nat→List UInt8) (i:Nat):Counts pg i ↔ (opn (pg i)).2.2.2 = 2∧(opn (pg i)).1 ≠ 3:=by
  unfold Counts
  constructor
  · rintro ⟨h1,h2⟩
    exact ⟨h1,by omega⟩
  · rintro ⟨h1,h2⟩
    have:=opn_kind _ h1
    exact ⟨h1,by omega⟩
theorem own4_cell {w:World} {base n c k:Nat} {D:Option Addr} {e:TypeId} {l:List Fnd} {z:Fnd} (h:w.ownsRow base e 4 (.slice D n c) n (cellsL l)) (hk:k < l.length) (hz:z = l.getD k zFnd) :
    ∃ b9 off9,D = some ⟨b9,off9,none⟩∧w.cell? ⟨b9,off9 + k * 4,none⟩ = some (.int .i64 z.lba)∧w.cell? ⟨b9,off9 + k * 4 + 1,none⟩ = some (.int .i64 z.page)∧w.cell? ⟨b9,off9 + k * 4 + 2,none⟩ = some (.int .i64 z.seq)∧w.cell? ⟨b9,off9 + k * 4 + 3,none⟩ = some (.int .i64 z.kind):=by
  subst hz
  rcases own4_rd h with h0 | ⟨b,off,rfl,hc⟩
  · have:=cellsL_len l
    rw [h0] at this
    simp at this
    omega
  · refine ⟨b,off,rfl, ?_, ?_, ?_, ?_⟩
    · have:=hc (k * 4 + 0) _ (cellsL_at hk (j:=0) rfl)
      simpa [Nat.add_assoc] using this
    all_goals rw [Nat.add_assoc]
    · exact hc _ _ (cellsL_at hk (j:=1) rfl)
    · exact hc _ _ (cellsL_at hk (j:=2) rfl)
    · exact hc _ _ (cellsL_at hk (j:=3) rfl)
attribute [local irreducible] cellsL refN insF opn posF
set_option maxRecDepth 20000 in
set_option maxHeartbeats 8000000 in
theorem newestOf_any (A:Option Addr) (L cp:Nat) (pg:Nat→List UInt8) (w:World) (hL:L ≤ 4096) (hA:LArgs w A L pg) :
    Calls Tryz.prog 17 #[.slice A L cp] w fun e w'=>∃ D c,e = .returned (.slice D (refN pg L).length c)∧Below w.heap.size w w'∧w'.ownsRow w.heap.size 60 4 (.slice D (refN pg L).length c) (refN pg L).length (cellsL (refN pg L)):=by
  have HA:=hide hA
  clear hA
  go_enter Tryz.func17,Tryz.ntmps17
  go_wp2_with fail
  go_loopw [3,4] (fun ou iv wr=>∃ (i m cc:Nat) (D:Option Addr) (l:List Fnd),iv = .int .i64 i∧ou = .slice D m cc∧i ≤ L∧m ≤ i∧m ≤ cc∧Hid (l = refN pg i∧m = l.length)∧Hid (wr.ownsRow w.heap.size 60 4 (.slice D m cc) m (cellsL l))∧Hid (Below w.heap.size w wr)) (fun _ iv _=>L - (intOf iv).toNat)
  case atStart=>exact ⟨0,0,0,none,[],rfl,rfl,by omega,by omega,by omega,hide ⟨by unfold refN; rfl,rfl⟩,hide (by unfold cellsL; exact World.ownsRow_nil _ _ _ _),hide (Below.refl _ _)⟩
  case round =>
    obtain ⟨i,m,cc,D,l,rfl,rfl,hi,hm,hmc,HE,HO,HB⟩:=hrel
    by_cases hlt:i < L
    · have e1:decide (i < L) = true:=by simpa using hlt
      have e1':decide ((i:Int) < (L:Int)) = true:=by simp; omega
      have hiL:(i:Int) < (L:Int):=by omega
      have q0:(0:Int) ≤ (i:Int):=by omega
      obtain ⟨b,off,pv,rfl,hc,hp⟩:=HA.out i hlt
      have hbb:b < w.heap.size:=World.block_lt_of_cell? w _ hc
      have hc1:wr.cell? ⟨b,off + i,none⟩ = some pv:=by rw [HB.out.cell (p:=⟨b,_,none⟩) hbb,hc]
      obtain ⟨A1,n1,c1,rfl,hn1,hnc1,hcm1,hr0⟩:=pg_rd hp
      have hr1:=hr0.below HB.out
      have HN1:=hide hn1
      clear hn1 hc hp hr0
      go_wp2_with fail
      refine (openOf_opn A1 (pg i) n1 c1 wr HN1.out hnc1 hcm1 hr1).mono ?_
      rintro e w2 ⟨hb2,B2,m2,c2,rfl⟩
      have HO2:=hide (own_below HO.out hb2 (Nat.le_refl _))
      have HB2:=hide (HB.out.trans (hb2.mono HB.out.size))
      clear hb2 hr1 hc1
      obtain ⟨op,hop⟩:∃ op,op = opn (pg i):=⟨_,rfl⟩
      rw [← hop]
      have HOP:=hide hop
      clear hop
      obtain ⟨kd,lb,sq,st⟩:=op
      unfold frV
      dsimp only
      have hF:=Bk.new w2 53 #[.int .i64 kd,.int .i64 lb,.int .i64 sq,.slice B2 m2 c2]
      have HO3:=hide (HO2.out.alloc (.cells #[.int .i64 kd,.int .i64 lb,.int .i64 sq,.slice B2 m2 c2] 53))
      have HB3:=hide (HB2.out.alloc HB2.out.size (.cells #[.int .i64 kd,.int .i64 lb,.int .i64 sq,.slice B2 m2 c2] 53))
      have c0:=hF.at_ (i:=0) (u:=.int .i64 kd) rfl
      have c1':=hF.at_ (i:=1) (u:=.int .i64 lb) rfl
      have c2':=hF.at_ (i:=2) (u:=.int .i64 sq) rfl
      by_cases hst:st = 2
      · subst hst
        by_cases hk3:kd = 3
        · subst hk3
          have e3:((3:Int) == 3) = true:=rfl
          go_wp2_with fail
          go_roundw
          case rel=>exact ⟨i + 1,m,cc,D,l,by go_num,rfl,by omega,by omega,hmc,hide ⟨by rw [refN_succ,if_neg (by rw [counts_iff,← HOP.out]; simp)]; exact HE.out.1,HE.out.2⟩,HO3,HB3⟩
          case measure=>simp [intOf]; omega
        · have e3:(kd == 3) = false:=by simpa using hk3
          have HC:Hid (Counts pg i):=hide (by rw [counts_iff,← HOP.out]; exact ⟨rfl,hk3⟩)
          clear hk3
          go_wp2_with fail
          obtain ⟨w5,hw5⟩:∃ w5,w5 = (w2.alloc (.cells #[.int .i64 kd,.int .i64 lb,.int .i64 sq,.slice B2 m2 c2] 53)).alloc (.cells #[.int .i64 lb,.int .i64 i,.int .i64 sq,.int .i64 kd] 60):=⟨_,rfl⟩
          have HX:Hid (Bk w5 (w2.heap.size + 1) 60 #[.int .i64 lb,.int .i64 i,.int .i64 sq,.int .i64 kd]):=hide (by
            have h:=Bk.new (w2.alloc (.cells #[.int .i64 kd,.int .i64 lb,.int .i64 sq,.slice B2 m2 c2] 53)) 60 #[.int .i64 lb,.int .i64 i,.int .i64 sq,.int .i64 kd]
            rw [← hw5] at h
            simpa using h)
          have HO5:Hid (w5.ownsRow w.heap.size 60 4 (.slice D m cc) m (cellsL l)):=hide (by rw [hw5]; exact HO3.out.alloc (.cells #[.int .i64 lb,.int .i64 i,.int .i64 sq,.int .i64 kd] 60))
          have HB5:Hid (Below w.heap.size w w5):=hide (by rw [hw5]; exact HB3.out.alloc HB3.out.size (.cells #[.int .i64 lb,.int .i64 i,.int .i64 sq,.int .i64 kd] 60))
          have HG:Hid (D.map (·.block) ≠ some (w2.heap.size + 1)):=hide (fun h=>by
            rcases HO2.out.2 with ⟨hv,-⟩ | ⟨g,cap,cur,hv,hb,hg,-⟩
            · injection hv with hv
              subst hv
              cases h
            · injection hv with hv
              subst hv
              have:=(Array.getElem?_eq_some_iff.1 hg).1
              simp at h
              omega)
          rw [← hw5]
          obtain ⟨gx,hgx⟩:∃ gx,gx = w2.heap.size + 1:=⟨_,rfl⟩
          rw [← hgx] at HX HG ⊢
          clear hw5 hgx HO3 HB3 hF c0 c1' c2' HO2 HB2 e3
          have x0:=HX.out.at_ (i:=0) (u:=.int .i64 lb) rfl
          have x1:=HX.out.at_ (i:=1) (u:=.int .i64 i) rfl
          have x2:=HX.out.at_ (i:=2) (u:=.int .i64 sq) rfl
          have x3:=HX.out.at_ (i:=3) (u:=.int .i64 kd) rfl
          go_loopw [8] (fun kv wq=>∃ k d:Nat,kv = .int .i64 k∧k ≤ m∧Hid (∀ j,j < k→(l.getD j zFnd).lba < lb)∧wq = w5.drewN d) (fun kv _=>m - (intOf kv).toNat)
          case atStart=>exact ⟨0,0,rfl,by omega,hide (fun j hj=>absurd hj (Nat.not_lt_zero j)),rfl⟩
          case round =>
            obtain ⟨k,d,rfl,hk,HK,rfl⟩:=hrel
            have k0:(0:Int) ≤ (k:Int):=by omega
            by_cases hkm:k < m
            · have e4:decide (k < m) = true:=by simpa using hkm
              have e4':decide ((k:Int) < (m:Int)) = true:=by simp; omega
              have hkm':(k:Int) < (m:Int):=by omega
              obtain ⟨z,hz⟩:∃ z,z = l.getD k zFnd:=⟨_,rfl⟩
              have HZ:=hide hz
              obtain ⟨b9,off9,rfl,y0,y1,y2,y3⟩:∃ b9 off9,D = some ⟨b9,off9,none⟩∧w5.cell? ⟨b9,off9 + k * 4,none⟩ = some (.int .i64 z.lba)∧w5.cell? ⟨b9,off9 + k * 4 + 1,none⟩ = some (.int .i64 z.page)∧w5.cell? ⟨b9,off9 + k * 4 + 2,none⟩ = some (.int .i64 z.seq)∧w5.cell? ⟨b9,off9 + k * 4 + 3,none⟩ = some (.int .i64 z.kind):=own4_cell HO5.out (by rw [← HE.out.2]; exact hkm) hz
              obtain ⟨zl,hzl⟩:∃ zl,zl = z.lba:=⟨_,rfl⟩
              obtain ⟨zp,hzp⟩:∃ zp,zp = z.page:=⟨_,rfl⟩
              obtain ⟨zs,hzs⟩:∃ zs,zs = z.seq:=⟨_,rfl⟩
              obtain ⟨zk,hzk⟩:∃ zk,zk = z.kind:=⟨_,rfl⟩
              rw [← hzl] at y0
              rw [← hzp] at y1
              rw [← hzs] at y2
              rw [← hzk] at y3
              have HZL:=hide hzl
              have HZS:=hide hzs
              clear hz hzl hzp hzs hzk
              by_cases hl1:zl < lb
              · have e5:decide (zl < lb) = true:=decide_eq_true hl1
                have HK2:Hid (∀ j,j < k + 1→(l.getD j zFnd).lba < lb):=hide (fun j hj=>by
                  rcases Nat.lt_or_ge j k with h | h
                  · exact HK.out j h
                  · obtain rfl:j = k:=by omega
                    rw [← HZ.out,← HZL.out]
                    exact hl1)
                clear hl1
                go_wp2_with fail
                go_quiet (fail)
                go_wp2_with fail
                go_roundw
                case rel=>exact ⟨k + 1,_,by go_num,by omega,HK2,rfl⟩
                case measure=>simp [intOf]; omega
              · have e5:decide (zl < lb) = false:=decide_eq_false hl1
                by_cases hl2:zl = lb
                · have e6:(zl == lb) = true:=by simpa using hl2
                  clear hl1
                  subst hl2
                  have HEQ:Hid (refN pg (i + 1) = if zs ≤ sq then l.set k ⟨zl,i,sq,kd⟩ else l):=hide (by
                    have hx:fndOf pg i = ⟨zl,i,sq,kd⟩:=by unfold fndOf; rw [← HOP.out]
                    rw [refN_succ,if_pos HC.out,← HE.out.1,hx,ins_set (posF_eq _ _ k (by rw [← HE.out.2]; exact hk) (fun j hj=>HK.out j hj) (fun _ h=>by rw [← HZ.out,← HZL.out] at h; exact of_decide_eq_false e5 h)) ⟨by rw [← HE.out.2]; exact hkm,by rw [← HZ.out,← HZL.out]⟩,← HZ.out,← HZS.out])
                  go_wp2_with fail
                  go_quiet (fail)
                  go_wp2_with fail
                  go_quiet (fail)
                  by_cases hsq:zs ≤ sq
                  · have e7:decide (zs ≤ sq) = true:=decide_eq_true hsq
                    have HT:Hid (w5.there b9 (off9 + k * 4) 4):=hide (own4_there HO5.out hkm)
                    have HS:=hide (own4_set (x:=⟨zl,i,sq,kd⟩) HO5.out HE.out.2 hkm)
                    have HL:Hid (l.set k ⟨zl,i,sq,kd⟩ = refN pg (i + 1)∧m = (l.set k (⟨zl,i,sq,kd⟩:Fnd)).length):=hide ⟨by rw [HEQ.out,if_pos hsq],by rw [List.length_set]; exact HE.out.2⟩
                    clear hsq
                    go_wp2_with fail
                    go_quiet (fail)
                    go_wp2_with (first
                      | refine wpList_store_mid rfl 60 (.tmp 80) (.tmp 79) rfl b9 (off9 + k * 4) #[.int .i64 zl,.int .i64 i,.int .i64 sq,.int .i64 kd] rfl rfl HT.out (by kernel_rfl) (by kernel_rfl) ?_)
                    go_roundw
                    case rel=>exact ⟨i + 1,m,cc,_,l.set k ⟨zl,i,sq,kd⟩,by go_num,rfl,by omega,by omega,hmc,hide HL.out,hide (own4_set (x:=⟨zl,i,sq,kd⟩) (show (w5.drewN _).ownsRow w.heap.size 60 4 (.slice (some ⟨b9,off9,none⟩) m cc) m (cellsL l) from HO5.out) HE.out.2 hkm).1,hide (below_setCells (below_drewN HB5.out _) HS.out.2 (o:=off9 + k * 4) _)⟩
                    case measure=>simp [intOf]; omega
                  · have e7:decide (zs ≤ sq) = false:=decide_eq_false hsq
                    have HL:Hid (l = refN pg (i + 1)):=hide (by rw [HEQ.out,if_neg hsq])
                    clear hsq
                    go_wp2_with fail
                    go_quiet (fail)
                    go_wp2_with fail
                    go_roundw
                    case rel=>exact ⟨i + 1,m,cc,_,l,by go_num,rfl,by omega,by omega,hmc,hide ⟨HL.out,HE.out.2⟩,hide HO5.out,hide (below_drewN HB5.out _)⟩
                    case measure=>simp [intOf]; omega
                · have e6:(zl == lb) = false:=by simpa using hl2
                  have HNE:Hid (¬ zl = lb):=hide hl2
                  clear hl1 hl2
                  have HTL:Hid ((l.take k).length = k∧Rd w5 (some ⟨b9,off9,none⟩) (cellsL (l.take k))∧(l.drop k).length = m - k∧Rd w5 (some ⟨b9,off9 + k * 4,none⟩) (cellsL (l.drop k))):=hide (by
                    have hr:=own4_rd HO5.out
                    have hkl:k ≤ l.length:=by rw [← HE.out.2]; exact hk
                    have h4:=rd_drop4 (cap:=cc) hr hkl (by rw [← HE.out.2]; exact hmc)
                    rw [if_neg (by omega),Option.map_some,Addr.add_lit] at h4
                    exact ⟨by rw [List.length_take]; omega,by rw [cellsL_take _ _ hkl]; exact hr.take _,by rw [List.length_drop,← HE.out.2],h4⟩)
                  have HNEW:Hid (refN pg (i + 1) = l.take k ++ ⟨lb,i,sq,kd⟩ :: l.drop k∧m + 1 = (l.take k ++ (⟨lb,i,sq,kd⟩:Fnd) :: l.drop k).length):=hide (by
                    have hx:fndOf pg i = ⟨lb,i,sq,kd⟩:=by unfold fndOf; rw [← HOP.out]
                    refine ⟨?_, ?_⟩
                    · rw [refN_succ,if_pos HC.out,← HE.out.1,hx]
                      refine ins_new (posF_eq _ _ _ (by rw [← HE.out.2]; omega) (fun j hj=>HK.out j hj) ?_) ?_
                      · intro _ h
                        rw [← HZ.out,← HZL.out] at h
                        exact of_decide_eq_false e5 h
                      · rintro ⟨-,h⟩
                        rw [← HZ.out,← HZL.out] at h
                        have:=HNE.out
                        exact this h
                    · have h1:=HTL.out.1
                      have h2:=HTL.out.2.2.1
                      rw [List.length_append,List.length_cons,h1,h2]
                      omega)
                  have hkc:(k:Int) ≤ (cc:Int):=by omega
                  go_wp2_with fail
                  go_quiet (fail)
                  go_wp2_with fail
                  go_quiet (fail)
                  go_wp2_with (first
                    | (at_builtin
                       refine wpList_append4 _ rfl (.tmp 81) (.tmp 84) rfl w5.heap.size (.slice none 0 0) 0 [] rfl (World.ownsRow_nil _ _ _ _) _ _ _ (l.take k) rfl (by have:=HTL.out.1; omega) HTL.out.2.1 k (by omega) (by omega) (by exact Nat.le_refl w5.heap.size) ?_
                       intro D1 c1 w7 hc1 ho1 hg1
                       have HB7:Hid (Below w5.heap.size w5 w7):=hide ⟨hg1.os,hg1.tape,hg1.output,hg1.size,fun q hq=>hg1.block q hq (by simp [Value.ownBlock])⟩
                       have HO7:=hide ho1
                       have hx7:=HX.out.below HB7.out HX.out.lt
                       have x0':=hx7.at_ (i:=0) (u:=.int .i64 lb) rfl
                       have x1':=hx7.at_ (i:=1) (u:=.int .i64 i) rfl
                       have x2':=hx7.at_ (i:=2) (u:=.int .i64 sq) rfl
                       have x3':=hx7.at_ (i:=3) (u:=.int .i64 kd) rfl
                       have HO7a:=hide (ho1.alloc (.cells #[.int .i64 lb,.int .i64 i,.int .i64 sq,.int .i64 kd] 60))
                       have HB7a:=hide (HB7.out.alloc HB7.out.size (.cells #[.int .i64 lb,.int .i64 i,.int .i64 sq,.int .i64 kd] 60))
                       have HR7:Hid (Rd (w7.alloc (.cells #[.int .i64 lb,.int .i64 i,.int .i64 sq,.int .i64 kd] 60)) (some ⟨w7.heap.size,0,none⟩) (cellsL [⟨lb,i,sq,kd⟩])):=hide (Rd.new w7 _ _ _ (0,0) _ rfl (by unfold cellsL; rfl))
                       clear ho1 hg1 hx7)
                    | (at_builtin
                       refine wpList_append4 _ rfl (.tmp 86) (.tmp 88) rfl w5.heap.size (.slice D1 k c1) k _ rfl HO7a.out _ 1 1 [⟨lb,i,sq,kd⟩] rfl rfl HR7.out (k + 1) rfl (by omega) HB7a.out.size ?_
                       intro D2 c2' w8 hc2 ho2 hg2
                       have HB8:=hide (HB7a.out.grown hg2 HB7a.out.size (fun q h=>(HO7a.out.lt q h).1))
                       have HO8:=hide ho2
                       clear ho2 hg2)
                    | (at_builtin
                       refine wpList_append4 _ rfl (.tmp 90) (.tmp 93) rfl w5.heap.size (.slice D2 (k + 1) c2') (k + 1) _ rfl HO8.out _ _ _ (l.drop k) rfl (by have:=HTL.out.2.2.1; omega) (HTL.out.2.2.2.below HB8.out) (m + 1) (by omega) (by omega) HB8.out.size ?_
                       intro D3 c3 w9 hc3 ho3 hg3
                       have HB9:=hide (HB8.out.grown hg3 HB8.out.size (fun q h=>(HO8.out.lt q h).1))
                       have HO9:=hide ho3
                       clear ho3 hg3))
                  go_roundw
                  case rel=>exact ⟨i + 1,m + 1,c3,D3,_,by go_num,rfl,by omega,by omega,hc3,hide ⟨HNEW.out.1.symm,HNEW.out.2⟩,hide (own_base (by rw [ins_cells]; exact HO9.out) HB5.out.size),hide (HB5.out.trans (HB9.out.mono HB5.out.size))⟩
                  case measure=>simp [intOf]; omega
            · obtain rfl:k = m:=by omega
              have e4:decide (k < k) = false:=by simp
              have e4':decide ((k:Int) < (k:Int)) = false:=by simp
              have hkl:k = l.length:=HE.out.2
              have HKL:=hide hkl
              rcases HO5.out.2 with ⟨hv,h0⟩ | ⟨g,cap,cur,hv,-,-,-⟩
              · injection hv with hA hB hC
                subst hA hB hC
                clear h0 hkl
                have HTL:Hid ((l.take 0).length = 0∧Rd w5 none (cellsL (l.take 0))∧(l.drop 0).length = 0 - 0∧Rd w5 none (cellsL (l.drop 0))):=hide (by
                  have hr:=own4_rd HO5.out
                  have hl0:l = []:=List.eq_nil_of_length_eq_zero (by have:=HKL.out; omega)
                  subst hl0
                  exact ⟨rfl,hr,rfl,hr⟩)
                have HNEW:Hid (refN pg (i + 1) = l.take 0 ++ ⟨lb,i,sq,kd⟩ :: l.drop 0∧0 + 1 = (l.take 0 ++ (⟨lb,i,sq,kd⟩:Fnd) :: l.drop 0).length):=hide (by
                  have hx:fndOf pg i = ⟨lb,i,sq,kd⟩:=by unfold fndOf; rw [← HOP.out]
                  refine ⟨?_, ?_⟩
                  · rw [refN_succ,if_pos HC.out,← HE.out.1,hx]
                    refine ins_new (posF_eq _ _ _ (by rw [← HE.out.2]; omega) (fun j hj=>HK.out j hj) ?_) ?_
                    · intro h
                      have:=HKL.out
                      omega
                    · rintro ⟨h,-⟩
                      have:=HKL.out
                      omega
                  · have h1:=HTL.out.1
                    have h2:=HTL.out.2.2.1
                    rw [List.length_append,List.length_cons,h1,h2])
                have hkc:(0:Int) ≤ (0:Int):=by omega
                go_wp2_with fail
                go_quiet (fail)
                go_wp2_with fail
                go_quiet (fail)
                go_wp2_with (first
                  | (at_builtin
                     refine wpList_append4 _ rfl (.tmp 81) (.tmp 84) rfl w5.heap.size (.slice none 0 0) 0 [] rfl (World.ownsRow_nil _ _ _ _) _ _ _ (l.take 0) rfl (by have:=HTL.out.1; omega) HTL.out.2.1 0 (by omega) (by omega) (by exact Nat.le_refl w5.heap.size) ?_
                     intro D1 c1 w7 hc1 ho1 hg1
                     have HB7:Hid (Below w5.heap.size w5 w7):=hide ⟨hg1.os,hg1.tape,hg1.output,hg1.size,fun q hq=>hg1.block q hq (by simp [Value.ownBlock])⟩
                     have HO7:=hide ho1
                     have hx7:=HX.out.below HB7.out HX.out.lt
                     have x0':=hx7.at_ (i:=0) (u:=.int .i64 lb) rfl
                     have x1':=hx7.at_ (i:=1) (u:=.int .i64 i) rfl
                     have x2':=hx7.at_ (i:=2) (u:=.int .i64 sq) rfl
                     have x3':=hx7.at_ (i:=3) (u:=.int .i64 kd) rfl
                     have HO7a:=hide (ho1.alloc (.cells #[.int .i64 lb,.int .i64 i,.int .i64 sq,.int .i64 kd] 60))
                     have HB7a:=hide (HB7.out.alloc HB7.out.size (.cells #[.int .i64 lb,.int .i64 i,.int .i64 sq,.int .i64 kd] 60))
                     have HR7:Hid (Rd (w7.alloc (.cells #[.int .i64 lb,.int .i64 i,.int .i64 sq,.int .i64 kd] 60)) (some ⟨w7.heap.size,0,none⟩) (cellsL [⟨lb,i,sq,kd⟩])):=hide (Rd.new w7 _ _ _ (0,0) _ rfl (by unfold cellsL; rfl))
                     clear ho1 hg1 hx7)
                  | (at_builtin
                     refine wpList_append4 _ rfl (.tmp 86) (.tmp 88) rfl w5.heap.size (.slice D1 0 c1) 0 _ rfl HO7a.out _ 1 1 [⟨lb,i,sq,kd⟩] rfl rfl HR7.out (0 + 1) rfl (by omega) HB7a.out.size ?_
                     intro D2 c2' w8 hc2 ho2 hg2
                     have HB8:=hide (HB7a.out.grown hg2 HB7a.out.size (fun q h=>(HO7a.out.lt q h).1))
                     have HO8:=hide ho2
                     clear ho2 hg2)
                  | (at_builtin
                     refine wpList_append4 _ rfl (.tmp 90) (.tmp 93) rfl w5.heap.size (.slice D2 (0 + 1) c2') (0 + 1) _ rfl HO8.out _ _ _ (l.drop 0) rfl (by have:=HTL.out.2.2.1; omega) (HTL.out.2.2.2.below HB8.out) (0 + 1) (by omega) (by omega) HB8.out.size ?_
                     intro D3 c3 w9 hc3 ho3 hg3
                     have HB9:=hide (HB8.out.grown hg3 HB8.out.size (fun q h=>(HO8.out.lt q h).1))
                     have HO9:=hide ho3
                     clear ho3 hg3))
                go_roundw
                case rel=>exact ⟨i + 1,0 + 1,c3,D3,_,by go_num,rfl,by omega,by omega,hc3,hide ⟨HNEW.out.1.symm,HNEW.out.2⟩,hide (own_base (by rw [ins_cells]; exact HO9.out) HB5.out.size),hide (HB5.out.trans (HB9.out.mono HB5.out.size))⟩
                case measure=>simp [intOf]; omega
              · injection hv with hA hB hC
                subst hA hC
                clear hkl
                by_cases hcc:cc = k
                · subst hcc
                  have HTL:Hid ((l.take cc).length = cc∧Rd w5 (some ⟨g,0,none⟩) (cellsL (l.take cc))∧(l.drop cc).length = cc - cc∧Rd w5 (some ⟨g,0,none⟩) (cellsL (l.drop cc))):=hide (by
                    have hr:=own4_rd HO5.out
                    have hkl:cc ≤ l.length:=Nat.le_of_eq HKL.out
                    exact ⟨by rw [List.length_take]; omega,by rw [cellsL_take _ _ hkl]; exact hr.take _,by rw [List.length_drop,← HKL.out],by rw [List.drop_of_length_le (Nat.le_of_eq HKL.out.symm)]; unfold cellsL; exact Rd.nil _ _⟩)
                  have HNEW:Hid (refN pg (i + 1) = l.take cc ++ ⟨lb,i,sq,kd⟩ :: l.drop cc∧cc + 1 = (l.take cc ++ (⟨lb,i,sq,kd⟩:Fnd) :: l.drop cc).length):=hide (by
                    have hx:fndOf pg i = ⟨lb,i,sq,kd⟩:=by unfold fndOf; rw [← HOP.out]
                    refine ⟨?_, ?_⟩
                    · rw [refN_succ,if_pos HC.out,← HE.out.1,hx]
                      refine ins_new (posF_eq _ _ _ (by rw [← HE.out.2]; omega) (fun j hj=>HK.out j hj) ?_) ?_
                      · intro h
                        have:=HKL.out
                        omega
                      · rintro ⟨h,-⟩
                        have:=HKL.out
                        omega
                    · have h1:=HTL.out.1
                      have h2:=HTL.out.2.2.1
                      rw [List.length_append,List.length_cons,h1,h2]
                      omega)
                  have hkc:(cc:Int) ≤ (cc:Int):=by omega
                  go_wp2_with fail
                  go_quiet (fail)
                  go_wp2_with fail
                  go_quiet (fail)
                  go_wp2_with (first
                    | (at_builtin
                       refine wpList_append4 _ rfl (.tmp 81) (.tmp 84) rfl w5.heap.size (.slice none 0 0) 0 [] rfl (World.ownsRow_nil _ _ _ _) _ _ _ (l.take cc) rfl (by have:=HTL.out.1; omega) HTL.out.2.1 cc (by omega) (by omega) (by exact Nat.le_refl w5.heap.size) ?_
                       intro D1 c1 w7 hc1 ho1 hg1
                       have HB7:Hid (Below w5.heap.size w5 w7):=hide ⟨hg1.os,hg1.tape,hg1.output,hg1.size,fun q hq=>hg1.block q hq (by simp [Value.ownBlock])⟩
                       have HO7:=hide ho1
                       have hx7:=HX.out.below HB7.out HX.out.lt
                       have x0':=hx7.at_ (i:=0) (u:=.int .i64 lb) rfl
                       have x1':=hx7.at_ (i:=1) (u:=.int .i64 i) rfl
                       have x2':=hx7.at_ (i:=2) (u:=.int .i64 sq) rfl
                       have x3':=hx7.at_ (i:=3) (u:=.int .i64 kd) rfl
                       have HO7a:=hide (ho1.alloc (.cells #[.int .i64 lb,.int .i64 i,.int .i64 sq,.int .i64 kd] 60))
                       have HB7a:=hide (HB7.out.alloc HB7.out.size (.cells #[.int .i64 lb,.int .i64 i,.int .i64 sq,.int .i64 kd] 60))
                       have HR7:Hid (Rd (w7.alloc (.cells #[.int .i64 lb,.int .i64 i,.int .i64 sq,.int .i64 kd] 60)) (some ⟨w7.heap.size,0,none⟩) (cellsL [⟨lb,i,sq,kd⟩])):=hide (Rd.new w7 _ _ _ (0,0) _ rfl (by unfold cellsL; rfl))
                       clear ho1 hg1 hx7)
                    | (at_builtin
                       refine wpList_append4 _ rfl (.tmp 86) (.tmp 88) rfl w5.heap.size (.slice D1 cc c1) cc _ rfl HO7a.out _ 1 1 [⟨lb,i,sq,kd⟩] rfl rfl HR7.out (cc + 1) rfl (by omega) HB7a.out.size ?_
                       intro D2 c2' w8 hc2 ho2 hg2
                       have HB8:=hide (HB7a.out.grown hg2 HB7a.out.size (fun q h=>(HO7a.out.lt q h).1))
                       have HO8:=hide ho2
                       clear ho2 hg2)
                    | (at_builtin
                       refine wpList_append4 _ rfl (.tmp 90) (.tmp 93) rfl w5.heap.size (.slice D2 (cc + 1) c2') (cc + 1) _ rfl HO8.out _ _ _ (l.drop cc) rfl (by have:=HTL.out.2.2.1; omega) (HTL.out.2.2.2.below HB8.out) (cc + 1) (by omega) (by omega) HB8.out.size ?_
                       intro D3 c3 w9 hc3 ho3 hg3
                       have HB9:=hide (HB8.out.grown hg3 HB8.out.size (fun q h=>(HO8.out.lt q h).1))
                       have HO9:=hide ho3
                       clear ho3 hg3))
                  go_roundw
                  case rel=>exact ⟨i + 1,cc + 1,c3,D3,_,by go_num,rfl,by omega,by omega,hc3,hide ⟨HNEW.out.1.symm,HNEW.out.2⟩,hide (own_base (by rw [ins_cells]; exact HO9.out) HB5.out.size),hide (HB5.out.trans (HB9.out.mono HB5.out.size))⟩
                  case measure=>simp [intOf]; omega
                · have hcc':k < cc:=by omega
                  have HTL:Hid ((l.take k).length = k∧Rd w5 (some ⟨g,0,none⟩) (cellsL (l.take k))∧(l.drop k).length = k - k∧Rd w5 (some ⟨g,k * 4,none⟩) (cellsL (l.drop k))):=hide (by
                    have hr:=own4_rd HO5.out
                    have hkl:k ≤ l.length:=Nat.le_of_eq HKL.out
                    exact ⟨by rw [List.length_take]; omega,by rw [cellsL_take _ _ hkl]; exact hr.take _,by rw [List.length_drop,← HKL.out],by rw [List.drop_of_length_le (Nat.le_of_eq HKL.out.symm)]; unfold cellsL; exact Rd.nil _ _⟩)
                  have HNEW:Hid (refN pg (i + 1) = l.take k ++ ⟨lb,i,sq,kd⟩ :: l.drop k∧k + 1 = (l.take k ++ (⟨lb,i,sq,kd⟩:Fnd) :: l.drop k).length):=hide (by
                    have hx:fndOf pg i = ⟨lb,i,sq,kd⟩:=by unfold fndOf; rw [← HOP.out]
                    refine ⟨?_, ?_⟩
                    · rw [refN_succ,if_pos HC.out,← HE.out.1,hx]
                      refine ins_new (posF_eq _ _ _ (by rw [← HE.out.2]; omega) (fun j hj=>HK.out j hj) ?_) ?_
                      · intro h
                        have:=HKL.out
                        omega
                      · rintro ⟨h,-⟩
                        have:=HKL.out
                        omega
                    · have h1:=HTL.out.1
                      have h2:=HTL.out.2.2.1
                      rw [List.length_append,List.length_cons,h1,h2]
                      omega)
                  have hkc:(k:Int) ≤ (cc:Int):=by omega
                  go_wp2_with fail
                  go_quiet (fail)
                  go_wp2_with fail
                  go_quiet (fail)
                  go_wp2_with (first
                    | (at_builtin
                       refine wpList_append4 _ rfl (.tmp 81) (.tmp 84) rfl w5.heap.size (.slice none 0 0) 0 [] rfl (World.ownsRow_nil _ _ _ _) _ _ _ (l.take k) rfl (by have:=HTL.out.1; omega) HTL.out.2.1 k (by omega) (by omega) (by exact Nat.le_refl w5.heap.size) ?_
                       intro D1 c1 w7 hc1 ho1 hg1
                       have HB7:Hid (Below w5.heap.size w5 w7):=hide ⟨hg1.os,hg1.tape,hg1.output,hg1.size,fun q hq=>hg1.block q hq (by simp [Value.ownBlock])⟩
                       have HO7:=hide ho1
                       have hx7:=HX.out.below HB7.out HX.out.lt
                       have x0':=hx7.at_ (i:=0) (u:=.int .i64 lb) rfl
                       have x1':=hx7.at_ (i:=1) (u:=.int .i64 i) rfl
                       have x2':=hx7.at_ (i:=2) (u:=.int .i64 sq) rfl
                       have x3':=hx7.at_ (i:=3) (u:=.int .i64 kd) rfl
                       have HO7a:=hide (ho1.alloc (.cells #[.int .i64 lb,.int .i64 i,.int .i64 sq,.int .i64 kd] 60))
                       have HB7a:=hide (HB7.out.alloc HB7.out.size (.cells #[.int .i64 lb,.int .i64 i,.int .i64 sq,.int .i64 kd] 60))
                       have HR7:Hid (Rd (w7.alloc (.cells #[.int .i64 lb,.int .i64 i,.int .i64 sq,.int .i64 kd] 60)) (some ⟨w7.heap.size,0,none⟩) (cellsL [⟨lb,i,sq,kd⟩])):=hide (Rd.new w7 _ _ _ (0,0) _ rfl (by unfold cellsL; rfl))
                       clear ho1 hg1 hx7)
                    | (at_builtin
                       refine wpList_append4 _ rfl (.tmp 86) (.tmp 88) rfl w5.heap.size (.slice D1 k c1) k _ rfl HO7a.out _ 1 1 [⟨lb,i,sq,kd⟩] rfl rfl HR7.out (k + 1) rfl (by omega) HB7a.out.size ?_
                       intro D2 c2' w8 hc2 ho2 hg2
                       have HB8:=hide (HB7a.out.grown hg2 HB7a.out.size (fun q h=>(HO7a.out.lt q h).1))
                       have HO8:=hide ho2
                       clear ho2 hg2)
                    | (at_builtin
                       refine wpList_append4 _ rfl (.tmp 90) (.tmp 93) rfl w5.heap.size (.slice D2 (k + 1) c2') (k + 1) _ rfl HO8.out _ _ _ (l.drop k) rfl (by have:=HTL.out.2.2.1; omega) (HTL.out.2.2.2.below HB8.out) (k + 1) (by omega) (by omega) HB8.out.size ?_
                       intro D3 c3 w9 hc3 ho3 hg3
                       have HB9:=hide (HB8.out.grown hg3 HB8.out.size (fun q h=>(HO8.out.lt q h).1))
                       have HO9:=hide ho3
                       clear ho3 hg3))
                  go_roundw
                  case rel=>exact ⟨i + 1,k + 1,c3,D3,_,by go_num,rfl,by omega,by omega,hc3,hide ⟨HNEW.out.1.symm,HNEW.out.2⟩,hide (own_base (by rw [ins_cells]; exact HO9.out) HB5.out.size),hide (HB5.out.trans (HB9.out.mono HB5.out.size))⟩
                  case measure=>simp [intOf]; omega
      · have e3:(st == 2) = false:=by simpa using hst
        have HNC:Hid (¬ Counts pg i):=hide (by rw [counts_iff,← HOP.out]; exact fun h=>hst h.1)
        clear hst
        go_wp2_with fail
        go_roundw
        case rel=>exact ⟨i + 1,m,cc,D,l,by go_num,rfl,by omega,by omega,hmc,hide ⟨by rw [refN_succ,if_neg HNC.out]; exact HE.out.1,HE.out.2⟩,HO3,HB3⟩
        case measure=>simp [intOf]; omega
    · obtain rfl:i = L:=by omega
      have e1:decide (i < i) = false:=by simp
      have e1':decide ((i:Int) < (i:Int)) = false:=by simp
      go_wp2_with fail
      go_ret
      refine ⟨D,cc, ?_,HB.out, ?_⟩
      · rw [← HE.out.1,← HE.out.2]
        rfl
      · rw [← HE.out.1,← HE.out.2]
        exact HO.out
end Go.Proofs.YtlaipigilikmbaaGreatDoor.RefS
