/- Walks: the whole houses at their beginning, of both sides. -/
import Derived.Test.YtnogkkcmcnhodaaDoorNv
namespace Go.Proofs.YtnogkkcmcnhodaaDoor
open Go.RowKit
attribute [local go_sem ↓] Go.wp_at_zero Go.wp_at_succ

def encHR (a : Int) : List Value := [.int .i64 a, .slice none 0 0, .slice none 0 0]
theorem encHR_len (a : Int) : (encHR a).length = 3 := rfl
theorem encHR_one (a : Int) : ∀ u ∈ encHR a, u.oneCell' = true := by intro u hu; simp [encHR] at hu; rcases hu with rfl | rfl <;> rfl
def Rp.hr : Rp Int := Rp.flat 3 encHR encHR_len encHR_one
theorem infoC_HR : (Tryd.prog.info? 68).map (fun i => (i.zero, i.size, i.bytes)) = some (some (.agg #[.int .i64 0, .slice none 0 0, .slice none 0 0]), 3, 56) := by kernel_rfl
/-- A whole house at its beginning: keys, what was used, who may turn the rules. -/
structure HN where
  keys : List Int
  used : List Int
  admins : List Int
deriving DecidableEq
def hseNew (keys admins : List Int) : HN := ⟨(mdlNew keys admins).keys, (mdlNew keys admins).used, (mdlNew keys admins).repos.map (·.admin)⟩
def restHN : List Value := [.slice none 0 0, .slice none 0 0, .slice none 0 0, .int .i64 0, .slice none 0 0, .slice none 0 0, .slice none 0 0]
def Rp.hn : Rp HN where
  k := 10
  R := fun w cs x fp => ∃ A0 n0 c0 f0 A1 n1 c1 f1 A2 n2 c2 f2, cs = .slice A0 n0 c0 :: .slice A1 n1 c1 :: .slice A2 n2 c2 :: restHN ∧ fp = f0 ++ (f1 ++ f2) ∧ SlR Rp.int w A0 n0 c0 x.keys f0 ∧ SlR Rp.int w A1 n1 c1 x.used f1 ∧ SlR Rp.hr w A2 n2 c2 x.admins f2
  len := fun ⟨_, _, _, _, _, _, _, _, _, _, _, _, h, _⟩ => by rw [h]; rfl
  keep := fun ⟨A0, n0, c0, f0, A1, n1, c1, f1, A2, n2, c2, f2, h, hf, h0, h1, h2⟩ hk => by
    subst hf
    exact ⟨A0, n0, c0, f0, A1, n1, c1, f1, A2, n2, c2, f2, h, rfl, h0.keep fun b hb => hk b (by simp [hb]), h1.keep fun b hb => hk b (by simp [hb]), h2.keep fun b hb => hk b (by simp [hb])⟩
  lt := fun ⟨A0, n0, c0, f0, A1, n1, c1, f1, A2, n2, c2, f2, h, hf, h0, h1, h2⟩ b hb => by
    subst hf
    simp only [List.mem_append] at hb
    rcases hb with hb | hb | hb
    · exact h0.lt b hb
    · exact h1.lt b hb
    · exact h2.lt b hb
  one := fun ⟨A0, n0, c0, f0, A1, n1, c1, f1, A2, n2, c2, f2, h, hf, h0, h1, h2⟩ u hu => by
    subst h
    simp only [restHN, List.mem_cons, List.not_mem_nil, or_false] at hu
    rcases hu with rfl | rfl | rfl | rfl | rfl | rfl | rfl | rfl | rfl | rfl <;> rfl
theorem mdlNew_len (keys admins : List Int) : (mdlNew keys admins).repos.length ≤ 3 := by
  unfold mdlNew
  split
  · next h =>
    rw [mdlOk_raw] at h
    simp only [Bool.and_eq_true, inB, decide_eq_true_eq] at h
    unfold rawHouse
    simp only [List.length_map]
    omega
  · simp
/-- The first k repos are there. -/
def HsTo (x : House) (wc : World) (b : Nat) (cs : List Value) (k : Nat) (wr : World) : Prop :=
  ∃ v, Blk wr b 44 (cs ++ v :: restHN).toArray ∧ wr.ownsRow wc.heap.size 68 3 v k (((x.repos.map (·.admin)).take k).flatMap encHR) ∧ Only [b] wc wr
theorem size_HseHouse : (Tryd.prog.info? 44).map (·.size) = some 10 := by kernel_rfl

set_option maxHeartbeats 4000000 in
set_option maxRecDepth 100000 in
theorem specHseNew_any {A0 A1 : Option Addr} {c0 c1 : Nat} {keys admins : List Int} {f0 f1 : List Nat} (w : World) (h0 : SlR Rp.int w A0 keys.length c0 keys f0) (h1 : SlR Rp.int w A1 admins.length c1 admins f1) (hk : keys.length ≤ 1048576) (ha : admins.length ≤ 1048576) :
    Calls Tryd.prog 18 #[.slice A0 keys.length c0, .slice A1 admins.length c1] w (ReadR Rp.hn w (hseNew keys admins)) := by
  replace h0 := h0.allocN (.cells #[.slice none 0 0, .slice none 0 0, .slice none 0 0, .slice none 0 0, .slice none 0 0, .slice none 0 0, .int .i64 0, .slice none 0 0, .slice none 0 0, .slice none 0 0] 44)
  replace h1 := h1.allocN (.cells #[.slice none 0 0, .slice none 0 0, .slice none 0 0, .slice none 0 0, .slice none 0 0, .slice none 0 0, .int .i64 0, .slice none 0 0, .slice none 0 0, .slice none 0 0] 44)
  have k1 := Blk.new w 44 #[.slice none 0 0, .slice none 0 0, .slice none 0 0, .slice none 0 0, .slice none 0 0, .slice none 0 0, .int .i64 0, .slice none 0 0, .slice none 0 0, .slice none 0 0]
  have HB0 := (Below.refl w.heap.size w).alloc (Nat.le_refl _) (.cells #[.slice none 0 0, .slice none 0 0, .slice none 0 0, .slice none 0 0, .slice none 0 0, .slice none 0 0, .int .i64 0, .slice none 0 0, .slice none 0 0, .slice none 0 0] 44)
  have hs0 : (w.alloc (.cells #[.slice none 0 0, .slice none 0 0, .slice none 0 0, .slice none 0 0, .slice none 0 0, .slice none 0 0, .int .i64 0, .slice none 0 0, .slice none 0 0, .slice none 0 0] 44)).heap.size = w.heap.size + 1 := by simp
  go_enter Tryd.func18, Tryd.ntmps18
  go_wp2_with fail
  refine (specMdlNew_any (keys := keys) (admins := admins) _ h0 h1 hk ha).mono ?_
  rintro e w1 ⟨cs, fp, rfl, hR, hlo, hb⟩
  rw [hs0] at hlo
  obtain ⟨x, hx⟩ : ∃ x, mdlNew keys admins = x := ⟨_, rfl⟩
  have hlen := mdlNew_len keys admins
  rw [hx] at hR hlen
  have HXE := hide (show hseNew keys admins = ⟨x.keys, x.used, x.repos.map (·.admin)⟩ by unfold hseNew; rw [hx])
  obtain ⟨A2, n2, c2, g0, A3, n3, c3, g1, A4, n4, c4, g2, rfl, rfl, s0, s1, s2⟩ := hR
  obtain rfl := s0.1
  obtain rfl := s1.1
  obtain rfl := s2.1
  replace k1 := k1.step hb
  have hz0 : w.heap.size < w1.heap.size := k1.lt
  replace HB0 := Below.then_ HB0 hb
  clear hb h0 h1 hx hs0
  have km := (Blk.new w1 25 #[.slice A2 x.keys.length c2, .slice A3 x.used.length c3, .slice A4 x.repos.length c4]).alloc (.cells #[.slice A2 x.keys.length c2, .slice A3 x.used.length c3, .slice none 0 0, .slice none 0 0, .slice none 0 0, .slice none 0 0, .int .i64 0, .slice none 0 0, .slice none 0 0, .slice none 0 0] 44)
  have kh := Blk.new (w1.alloc (.cells #[.slice A2 x.keys.length c2, .slice A3 x.used.length c3, .slice A4 x.repos.length c4] 25)) 44 #[.slice A2 x.keys.length c2, .slice A3 x.used.length c3, .slice none 0 0, .slice none 0 0, .slice none 0 0, .slice none 0 0, .int .i64 0, .slice none 0 0, .slice none 0 0, .slice none 0 0]
  rw [show (w1.alloc (.cells #[.slice A2 x.keys.length c2, .slice A3 x.used.length c3, .slice A4 x.repos.length c4] 25)).heap.size = w1.heap.size + 1 by simp] at kh
  replace k1 := (k1.alloc (.cells #[.slice A2 x.keys.length c2, .slice A3 x.used.length c3, .slice A4 x.repos.length c4] 25)).alloc (.cells #[.slice A2 x.keys.length c2, .slice A3 x.used.length c3, .slice none 0 0, .slice none 0 0, .slice none 0 0, .slice none 0 0, .int .i64 0, .slice none 0 0, .slice none 0 0, .slice none 0 0] 44)
  have LTW : ∀ z ∈ g0 ++ (g1 ++ g2), z < w1.heap.size := fun z hz => by
    simp only [List.mem_append] at hz
    rcases hz with hz | hz | hz
    · exact s0.lt z hz
    · exact s1.lt z hz
    · exact s2.lt z hz
  replace s0 := (s0.allocN (.cells #[.slice A2 x.keys.length c2, .slice A3 x.used.length c3, .slice A4 x.repos.length c4] 25)).allocN (.cells #[.slice A2 x.keys.length c2, .slice A3 x.used.length c3, .slice none 0 0, .slice none 0 0, .slice none 0 0, .slice none 0 0, .int .i64 0, .slice none 0 0, .slice none 0 0, .slice none 0 0] 44)
  replace s1 := (s1.allocN (.cells #[.slice A2 x.keys.length c2, .slice A3 x.used.length c3, .slice A4 x.repos.length c4] 25)).allocN (.cells #[.slice A2 x.keys.length c2, .slice A3 x.used.length c3, .slice none 0 0, .slice none 0 0, .slice none 0 0, .slice none 0 0, .int .i64 0, .slice none 0 0, .slice none 0 0, .slice none 0 0] 44)
  replace s2 := (s2.allocN (.cells #[.slice A2 x.keys.length c2, .slice A3 x.used.length c3, .slice A4 x.repos.length c4] 25)).allocN (.cells #[.slice A2 x.keys.length c2, .slice A3 x.used.length c3, .slice none 0 0, .slice none 0 0, .slice none 0 0, .slice none 0 0, .int .i64 0, .slice none 0 0, .slice none 0 0, .slice none 0 0] 44)
  have HSZ := hide (show ((w1.alloc (.cells #[.slice A2 x.keys.length c2, .slice A3 x.used.length c3, .slice A4 x.repos.length c4] 25)).alloc (.cells #[.slice A2 x.keys.length c2, .slice A3 x.used.length c3, .slice none 0 0, .slice none 0 0, .slice none 0 0, .slice none 0 0, .int .i64 0, .slice none 0 0, .slice none 0 0, .slice none 0 0] 44)).heap.size = w1.heap.size + 1 + 1 by simp)
  replace HB0 := (HB0.alloc HB0.size (.cells #[.slice A2 x.keys.length c2, .slice A3 x.used.length c3, .slice A4 x.repos.length c4] 25)).alloc (by have := HB0.size; simp; omega) (.cells #[.slice A2 x.keys.length c2, .slice A3 x.used.length c3, .slice none 0 0, .slice none 0 0, .slice none 0 0, .slice none 0 0, .int .i64 0, .slice none 0 0, .slice none 0 0, .slice none 0 0] 44)
  have hlw : ∀ z ∈ g0 ++ (g1 ++ g2), z < w1.heap.size := LTW
  go_upto_region 3 with fail
  generalize hWC : (w1.alloc (.cells #[.slice A2 x.keys.length c2, .slice A3 x.used.length c3, .slice A4 x.repos.length c4] 25)).alloc (.cells #[.slice A2 x.keys.length c2, .slice A3 x.used.length c3, .slice none 0 0, .slice none 0 0, .slice none 0 0, .slice none 0 0, .int .i64 0, .slice none 0 0, .slice none 0 0, .slice none 0 0] 44) = wc at km kh k1 s0 s1 s2 HSZ HB0 ⊢
  clear hWC
  have HLO := hide hlo
  have HLT := hide (show (∀ z ∈ g0, z < w1.heap.size) ∧ (∀ z ∈ g1, z < w1.heap.size) ∧ (∀ z ∈ g2, z < w1.heap.size) from by
    refine ⟨fun z hz => ?_, fun z hz => ?_, fun z hz => ?_⟩
    all_goals exact hlw z (by simp [hz]))
  have HKM := hide (fun (W : World) (ho : Only [w1.heap.size + 1] wc W) => km.only ho (by simp))
  have HK1 := hide (fun (W : World) (ho : Only [w1.heap.size + 1] wc W) => k1.only ho (by simp; omega))
  have HS0 := hide (fun (W : World) (ho : Only [w1.heap.size + 1] wc W) => s0.only ho (fun z hz hm => by simp at hm; have := HLT.out.1 z hz; omega))
  have HS1 := hide (fun (W : World) (ho : Only [w1.heap.size + 1] wc W) => s1.only ho (fun z hz hm => by simp at hm; have := HLT.out.2.1 z hz; omega))
  have HS2 := hide (fun (W : World) (ho : Only [w1.heap.size + 1] wc W) => s2.only ho (fun z hz hm => by simp at hm; have := HLT.out.2.2 z hz; omega))
  have HBW0 := hide (fun (W : World) (ho : Only [w1.heap.size + 1] wc W) => HB0.trans (ho.below (fun z hz => by simp at hz; omega) HB0.size))
  have HKH := hide kh
  have HZ := hide hz0
  have HLN := hide hlen
  have um : wc.cell? ⟨w1.heap.size, 2, none⟩ = some (.slice A4 x.repos.length c4) := km.cell 2
  have hmx : x.repos.length ≤ 9223372036854775807 := s2.max
  clear LTW km k1 s0 s1 s2 HB0 kh hlo hlen hlw
  obtain ⟨j0, hj0, hy0, hy1, hy2⟩ := info_parts infoC_HR
  go_wp2_with fail
  go_loopw [7] (fun i wr => ∃ k : Nat, k ≤ x.repos.length ∧ i = .int .i64 k ∧ HsTo x wc (w1.heap.size + 1) [.slice A2 x.keys.length c2, .slice A3 x.used.length c3] k wr) (fun i _ => x.repos.length - (intOf i).toNat)
  case atStart => exact ⟨0, Nat.zero_le _, rfl, .slice none 0 0, HKH.out, by simpa using World.ownsRow_nil _ _ _ _, Only.refl _ _⟩
  case round =>
    obtain ⟨wo, hwo⟩ : ∃ wo, wo = wr := ⟨_, rfl⟩
    subst hwo
    obtain ⟨k, hk, rfl, v, kbr, hown, ho⟩ := hrel
    have s2r := HS2.out wo ho
    have kmr := HKM.out wo ho
    have um' : wo.cell? ⟨w1.heap.size, 2, none⟩ = some (.slice A4 x.repos.length c4) := kmr.cell 2
    have HKB := hide kbr
    have HOW := hide hown
    have HON := hide ho
    clear um kmr kbr hown ho
    by_cases hlt : k < x.repos.length
    · obtain ⟨b, o, B0, m0, d0, e0, B1, m1, d1, e1, rfl, hbl, hbm, q0, q1, q2, _, _, _⟩ := repo_cells s2r hlt
      have i0 : (0 : Int) ≤ (k : Int) := by omega
      have i1 : (k : Int) < (x.repos.length : Int) := by omega
      have HTK := hide (show ((x.repos.map (·.admin)).take (k + 1)).flatMap encHR = ((x.repos.map (·.admin)).take k).flatMap encHR ++ encHR x.repos[k].admin by
        rw [List.take_succ_eq_append_getElem (by simpa using hlt), List.flatMap_append, List.flatMap_singleton, List.getElem_map])
      have HNB := hide (show w1.heap.size + 1 ∉ vblk v from fun hm => by have := (ownsRow_lt HOW.out _ hm).1; have := HSZ.out; omega)
      have HK3 := hide (show k + 1 ≤ 3 by have := HLN.out; omega)
      have HSo := hide (show wc.heap.size ≤ wo.heap.size from HON.out.size)
      have u0 : wo.cell? ⟨w1.heap.size + 1, 2, none⟩ = some v := HKB.out.cell 2
      generalize x.repos[k].admin = ad at q0 HTK
      clear s2r hbl hbm
      have ua := cell_alloc u0 (.cells (encHR ad).toArray 68)
      have um2 := cell_alloc um' (.cells (encHR ad).toArray 68)
      have qa := cell_alloc q0 (.cells (encHR ad).toArray 68)
      unfold encHR at ua um2 qa
      go_wp2_with fail
      refine wp_stop fun K hK => ?_
      have HKK := hide hK
      clear hK
      go_region_law (refine step_append_lies _ rfl _ _ 39 rfl wc.heap.size 68 j0 _ 3 56 Tryd.underlying39 hj0 hy0 hy1 hy2 rfl (by decide) v k _ (by simp [Act.eval, Act.put]) (ownsRow_keep HOW.out (fun z hz => (show Below wo.heap.size wo _ from (by first | exact ((Below.refl _ _).alloc (Nat.le_refl _) _).drew | exact ((Below.refl _ _).drew).alloc (Nat.le_refl _) _)).block z (ownsRow_lt HOW.out z hz).2)) ⟨wo.heap.size, 0, none⟩ 1 1 (encHR ad) (by simp [Act.eval, Act.put]) rfl (by first | exact news_alloc wo.drew _ _ | exact news_alloc wo _ _) (encHR_one ad) (by decide) (by have := HK3.out; unfold maxLen; omega) (by have := HK3.out; omega) (by have := HSo.out; simp; omega) (wo.heap.size + 1) (by simp) ?_; intro g cap w6 ho2 hgr hor hlt2; have HNw := hide ho2; have HOa := hide (show Only [w1.heap.size + 1] wc w6 from (HON.out.then_below (show Below wo.heap.size wo _ from (by first | exact ((Below.refl _ _).alloc (Nat.le_refl _) _).drew | exact ((Below.refl _ _).drew).alloc (Nat.le_refl _) _))).then_only (grown_only hgr) (fun z hz => .inr (ownsRow_lt HOW.out z hz).1)); have k6 := (HKB.out.step (show Below wo.heap.size wo _ from (by first | exact ((Below.refl _ _).alloc (Nat.le_refl _) _).drew | exact ((Below.refl _ _).drew).alloc (Nat.le_refl _) _))).only (grown_only hgr) HNB.out; have cb6 := k6.cell 2; have zb6 := blk_frozen k6 2; simp at cb6)
      all_goals
        refine HKK.out _ _ ?_
        clear HKK K
        have HREL := hide (show HsTo x wc (w1.heap.size + 1) [.slice A2 x.keys.length c2, .slice A3 x.used.length c3] (k + 1) (w6.setCell ⟨w1.heap.size + 1, 2, none⟩ (.slice (some ⟨g, 0, none⟩) (k + 1) cap)) from
          ⟨_, by simpa using k6.put 2 (.slice (some ⟨g, 0, none⟩) (k + 1) cap), by rw [HTK.out]; exact ownsRow_keep HNw.out (fun z hz => (only_setCell w6 _ 2 _).block z (ownsRow_lt HNw.out z hz).2 (by simp; have := (ownsRow_lt HNw.out z hz).1; have := HSZ.out; omega)), HOa.out.trans (only_setCell w6 _ 2 _)⟩)
        clear ho2 hgr hor hlt2 k6 cb6 zb6 u0 ua um2 qa q0 q1 q2
        go_wp2
        exact ⟨⟨k + 1, by omega, by go_num, HREL.out⟩, by simp [intOf]; omega⟩
    · have hk' : k = (x.repos.map (·.admin)).length := by simp; omega
      have hown := HOW.out
      rw [hk', List.take_of_length_le (Nat.le_refl _)] at hown
      obtain ⟨Av, cv, fv, rfl, hsl, hlv, hnv, hfv⟩ := own_sl (hk := encHR_len) (h1 := encHR_one) hown
      have hrl : (x.repos.map (·.admin)).length = x.repos.length := by simp
      rw [hrl] at hsl
      have t0 := HS0.out wo HON.out
      have t1 := HS1.out wo HON.out
      have HRead := hide (show Rp.hn.R wo ([.slice A2 x.keys.length c2, .slice A3 x.used.length c3] ++ .slice Av x.repos.length cv :: restHN) ⟨x.keys, x.used, x.repos.map (·.admin)⟩ (g0 ++ (g1 ++ fv)) from ⟨_, _, _, g0, _, _, _, g1, _, _, _, fv, rfl, rfl, t0, t1, hsl⟩)
      have HLV := hide hlv
      have kz := HK1.out wo HON.out
      have HBB := hide (HBW0.out wo HON.out)
      have y0 := blk_frozen kz 0
      have d0 : wo.cell? ⟨w.heap.size, 0, none⟩ = some (.slice none 0 0) := kz.cell 0
      have y1 := blk_frozen kz 1
      have d1 : wo.cell? ⟨w.heap.size, 1, none⟩ = some (.slice none 0 0) := kz.cell 1
      have y2 := blk_frozen kz 2
      have d2 : wo.cell? ⟨w.heap.size, 2, none⟩ = some (.slice none 0 0) := kz.cell 2
      have y3 := blk_frozen kz 3
      have d3 : wo.cell? ⟨w.heap.size, 3, none⟩ = some (.slice none 0 0) := kz.cell 3
      have y4 := blk_frozen kz 4
      have d4 : wo.cell? ⟨w.heap.size, 4, none⟩ = some (.slice none 0 0) := kz.cell 4
      have y5 := blk_frozen kz 5
      have d5 : wo.cell? ⟨w.heap.size, 5, none⟩ = some (.slice none 0 0) := kz.cell 5
      have y6 := blk_frozen kz 6
      have d6 : wo.cell? ⟨w.heap.size, 6, none⟩ = some (.int .i64 0) := kz.cell 6
      have y7 := blk_frozen kz 7
      have d7 : wo.cell? ⟨w.heap.size, 7, none⟩ = some (.slice none 0 0) := kz.cell 7
      have y8 := blk_frozen kz 8
      have d8 : wo.cell? ⟨w.heap.size, 8, none⟩ = some (.slice none 0 0) := kz.cell 8
      have y9 := blk_frozen kz 9
      have d9 : wo.cell? ⟨w.heap.size, 9, none⟩ = some (.slice none 0 0) := kz.cell 9
      have r0 : Blk (wo.setCell ⟨w.heap.size, 0, none⟩ (.slice A2 x.keys.length c2)) w.heap.size 44 #[.slice A2 x.keys.length c2, .slice none 0 0, .slice none 0 0, .slice none 0 0, .slice none 0 0, .slice none 0 0, .int .i64 0, .slice none 0 0, .slice none 0 0, .slice none 0 0] := by simpa using kz.put 0 (.slice A2 x.keys.length c2)
      have r1 : Blk ((wo.setCell ⟨w.heap.size, 0, none⟩ (.slice A2 x.keys.length c2)).setCell ⟨w.heap.size, 1, none⟩ (.slice A3 x.used.length c3)) w.heap.size 44 #[.slice A2 x.keys.length c2, .slice A3 x.used.length c3, .slice none 0 0, .slice none 0 0, .slice none 0 0, .slice none 0 0, .int .i64 0, .slice none 0 0, .slice none 0 0, .slice none 0 0] := by simpa using r0.put 1 (.slice A3 x.used.length c3)
      have r2 : Blk (((wo.setCell ⟨w.heap.size, 0, none⟩ (.slice A2 x.keys.length c2)).setCell ⟨w.heap.size, 1, none⟩ (.slice A3 x.used.length c3)).setCell ⟨w.heap.size, 2, none⟩ (.slice Av x.repos.length cv)) w.heap.size 44 #[.slice A2 x.keys.length c2, .slice A3 x.used.length c3, .slice Av x.repos.length cv, .slice none 0 0, .slice none 0 0, .slice none 0 0, .int .i64 0, .slice none 0 0, .slice none 0 0, .slice none 0 0] := by simpa using r1.put 2 (.slice Av x.repos.length cv)
      have r3 : Blk ((((wo.setCell ⟨w.heap.size, 0, none⟩ (.slice A2 x.keys.length c2)).setCell ⟨w.heap.size, 1, none⟩ (.slice A3 x.used.length c3)).setCell ⟨w.heap.size, 2, none⟩ (.slice Av x.repos.length cv)).setCell ⟨w.heap.size, 3, none⟩ (.slice none 0 0)) w.heap.size 44 #[.slice A2 x.keys.length c2, .slice A3 x.used.length c3, .slice Av x.repos.length cv, .slice none 0 0, .slice none 0 0, .slice none 0 0, .int .i64 0, .slice none 0 0, .slice none 0 0, .slice none 0 0] := by simpa using r2.put 3 (.slice none 0 0)
      have r4 : Blk (((((wo.setCell ⟨w.heap.size, 0, none⟩ (.slice A2 x.keys.length c2)).setCell ⟨w.heap.size, 1, none⟩ (.slice A3 x.used.length c3)).setCell ⟨w.heap.size, 2, none⟩ (.slice Av x.repos.length cv)).setCell ⟨w.heap.size, 3, none⟩ (.slice none 0 0)).setCell ⟨w.heap.size, 4, none⟩ (.slice none 0 0)) w.heap.size 44 #[.slice A2 x.keys.length c2, .slice A3 x.used.length c3, .slice Av x.repos.length cv, .slice none 0 0, .slice none 0 0, .slice none 0 0, .int .i64 0, .slice none 0 0, .slice none 0 0, .slice none 0 0] := by simpa using r3.put 4 (.slice none 0 0)
      have r5 : Blk ((((((wo.setCell ⟨w.heap.size, 0, none⟩ (.slice A2 x.keys.length c2)).setCell ⟨w.heap.size, 1, none⟩ (.slice A3 x.used.length c3)).setCell ⟨w.heap.size, 2, none⟩ (.slice Av x.repos.length cv)).setCell ⟨w.heap.size, 3, none⟩ (.slice none 0 0)).setCell ⟨w.heap.size, 4, none⟩ (.slice none 0 0)).setCell ⟨w.heap.size, 5, none⟩ (.slice none 0 0)) w.heap.size 44 #[.slice A2 x.keys.length c2, .slice A3 x.used.length c3, .slice Av x.repos.length cv, .slice none 0 0, .slice none 0 0, .slice none 0 0, .int .i64 0, .slice none 0 0, .slice none 0 0, .slice none 0 0] := by simpa using r4.put 5 (.slice none 0 0)
      have r6 : Blk (((((((wo.setCell ⟨w.heap.size, 0, none⟩ (.slice A2 x.keys.length c2)).setCell ⟨w.heap.size, 1, none⟩ (.slice A3 x.used.length c3)).setCell ⟨w.heap.size, 2, none⟩ (.slice Av x.repos.length cv)).setCell ⟨w.heap.size, 3, none⟩ (.slice none 0 0)).setCell ⟨w.heap.size, 4, none⟩ (.slice none 0 0)).setCell ⟨w.heap.size, 5, none⟩ (.slice none 0 0)).setCell ⟨w.heap.size, 6, none⟩ (.int .i64 0)) w.heap.size 44 #[.slice A2 x.keys.length c2, .slice A3 x.used.length c3, .slice Av x.repos.length cv, .slice none 0 0, .slice none 0 0, .slice none 0 0, .int .i64 0, .slice none 0 0, .slice none 0 0, .slice none 0 0] := by simpa using r5.put 6 (.int .i64 0)
      have r7 : Blk ((((((((wo.setCell ⟨w.heap.size, 0, none⟩ (.slice A2 x.keys.length c2)).setCell ⟨w.heap.size, 1, none⟩ (.slice A3 x.used.length c3)).setCell ⟨w.heap.size, 2, none⟩ (.slice Av x.repos.length cv)).setCell ⟨w.heap.size, 3, none⟩ (.slice none 0 0)).setCell ⟨w.heap.size, 4, none⟩ (.slice none 0 0)).setCell ⟨w.heap.size, 5, none⟩ (.slice none 0 0)).setCell ⟨w.heap.size, 6, none⟩ (.int .i64 0)).setCell ⟨w.heap.size, 7, none⟩ (.slice none 0 0)) w.heap.size 44 #[.slice A2 x.keys.length c2, .slice A3 x.used.length c3, .slice Av x.repos.length cv, .slice none 0 0, .slice none 0 0, .slice none 0 0, .int .i64 0, .slice none 0 0, .slice none 0 0, .slice none 0 0] := by simpa using r6.put 7 (.slice none 0 0)
      have r8 : Blk (((((((((wo.setCell ⟨w.heap.size, 0, none⟩ (.slice A2 x.keys.length c2)).setCell ⟨w.heap.size, 1, none⟩ (.slice A3 x.used.length c3)).setCell ⟨w.heap.size, 2, none⟩ (.slice Av x.repos.length cv)).setCell ⟨w.heap.size, 3, none⟩ (.slice none 0 0)).setCell ⟨w.heap.size, 4, none⟩ (.slice none 0 0)).setCell ⟨w.heap.size, 5, none⟩ (.slice none 0 0)).setCell ⟨w.heap.size, 6, none⟩ (.int .i64 0)).setCell ⟨w.heap.size, 7, none⟩ (.slice none 0 0)).setCell ⟨w.heap.size, 8, none⟩ (.slice none 0 0)) w.heap.size 44 #[.slice A2 x.keys.length c2, .slice A3 x.used.length c3, .slice Av x.repos.length cv, .slice none 0 0, .slice none 0 0, .slice none 0 0, .int .i64 0, .slice none 0 0, .slice none 0 0, .slice none 0 0] := by simpa using r7.put 8 (.slice none 0 0)
      have r9 : Blk ((((((((((wo.setCell ⟨w.heap.size, 0, none⟩ (.slice A2 x.keys.length c2)).setCell ⟨w.heap.size, 1, none⟩ (.slice A3 x.used.length c3)).setCell ⟨w.heap.size, 2, none⟩ (.slice Av x.repos.length cv)).setCell ⟨w.heap.size, 3, none⟩ (.slice none 0 0)).setCell ⟨w.heap.size, 4, none⟩ (.slice none 0 0)).setCell ⟨w.heap.size, 5, none⟩ (.slice none 0 0)).setCell ⟨w.heap.size, 6, none⟩ (.int .i64 0)).setCell ⟨w.heap.size, 7, none⟩ (.slice none 0 0)).setCell ⟨w.heap.size, 8, none⟩ (.slice none 0 0)).setCell ⟨w.heap.size, 9, none⟩ (.slice none 0 0)) w.heap.size 44 #[.slice A2 x.keys.length c2, .slice A3 x.used.length c3, .slice Av x.repos.length cv, .slice none 0 0, .slice none 0 0, .slice none 0 0, .int .i64 0, .slice none 0 0, .slice none 0 0, .slice none 0 0] := by simpa using r8.put 9 (.slice none 0 0)
      have R := hide r9
      clear r0 r1 r2 r3 r4 r5 r6 r7 r8 r9
      have RO := hide (((((((((((Only.refl [w.heap.size] wo).setCell (p := ⟨w.heap.size, 0, none⟩) (.inl (by simp)) (.slice A2 x.keys.length c2)).setCell (p := ⟨w.heap.size, 1, none⟩) (.inl (by simp)) (.slice A3 x.used.length c3)).setCell (p := ⟨w.heap.size, 2, none⟩) (.inl (by simp)) (.slice Av x.repos.length cv)).setCell (p := ⟨w.heap.size, 3, none⟩) (.inl (by simp)) (.slice none 0 0)).setCell (p := ⟨w.heap.size, 4, none⟩) (.inl (by simp)) (.slice none 0 0)).setCell (p := ⟨w.heap.size, 5, none⟩) (.inl (by simp)) (.slice none 0 0)).setCell (p := ⟨w.heap.size, 6, none⟩) (.inl (by simp)) (.int .i64 0)).setCell (p := ⟨w.heap.size, 7, none⟩) (.inl (by simp)) (.slice none 0 0)).setCell (p := ⟨w.heap.size, 8, none⟩) (.inl (by simp)) (.slice none 0 0)).setCell (p := ⟨w.heap.size, 9, none⟩) (.inl (by simp)) (.slice none 0 0))
      have HBW := hide ((((((((((HBB.out.setCell (p := ⟨w.heap.size, 0, none⟩) (Nat.le_refl _) (.slice A2 x.keys.length c2)).setCell (p := ⟨w.heap.size, 1, none⟩) (Nat.le_refl _) (.slice A3 x.used.length c3)).setCell (p := ⟨w.heap.size, 2, none⟩) (Nat.le_refl _) (.slice Av x.repos.length cv)).setCell (p := ⟨w.heap.size, 3, none⟩) (Nat.le_refl _) (.slice none 0 0)).setCell (p := ⟨w.heap.size, 4, none⟩) (Nat.le_refl _) (.slice none 0 0)).setCell (p := ⟨w.heap.size, 5, none⟩) (Nat.le_refl _) (.slice none 0 0)).setCell (p := ⟨w.heap.size, 6, none⟩) (Nat.le_refl _) (.int .i64 0)).setCell (p := ⟨w.heap.size, 7, none⟩) (Nat.le_refl _) (.slice none 0 0)).setCell (p := ⟨w.heap.size, 8, none⟩) (Nat.le_refl _) (.slice none 0 0)).setCell (p := ⟨w.heap.size, 9, none⟩) (Nat.le_refl _) (.slice none 0 0))
      have HKB2 := hide (show Blk wo (w1.heap.size + 1) 44 #[.slice A2 x.keys.length c2, .slice A3 x.used.length c3, .slice Av x.repos.length cv, .slice none 0 0, .slice none 0 0, .slice none 0 0, .int .i64 0, .slice none 0 0, .slice none 0 0, .slice none 0 0] from by have hq := HKB.out; rw [hrl] at hq; exact hq)
      clear hown hsl hlv hnv hfv t0 t1 s2r kz HBB HOW hk' hrl
      go_wp2_with ((refine wpList_load_row rfl 44 (.tmp 6) rfl _ rfl _ _ _ _ HKB2.out.out Tryd.underlying44 rfl size_HseHouse ?_))
      have R := R.out
      have RO := RO.out
      have HBW := HBW.out
      generalize ((((((((((wo.setCell ⟨w.heap.size, 0, none⟩ (.slice A2 x.keys.length c2)).setCell ⟨w.heap.size, 1, none⟩ (.slice A3 x.used.length c3)).setCell ⟨w.heap.size, 2, none⟩ (.slice Av x.repos.length cv)).setCell ⟨w.heap.size, 3, none⟩ (.slice none 0 0)).setCell ⟨w.heap.size, 4, none⟩ (.slice none 0 0)).setCell ⟨w.heap.size, 5, none⟩ (.slice none 0 0)).setCell ⟨w.heap.size, 6, none⟩ (.int .i64 0)).setCell ⟨w.heap.size, 7, none⟩ (.slice none 0 0)).setCell ⟨w.heap.size, 8, none⟩ (.slice none 0 0)).setCell ⟨w.heap.size, 9, none⟩ (.slice none 0 0)) = W at R RO HBW ⊢
      have e0 : W.cell? ⟨w.heap.size, 0, none⟩ = some (.slice A2 x.keys.length c2) := R.cell 0
      have e1 : W.cell? ⟨w.heap.size, 1, none⟩ = some (.slice A3 x.used.length c3) := R.cell 1
      have e2 : W.cell? ⟨w.heap.size, 2, none⟩ = some (.slice Av x.repos.length cv) := R.cell 2
      have e3 : W.cell? ⟨w.heap.size, 3, none⟩ = some (.slice none 0 0) := R.cell 3
      have e4 : W.cell? ⟨w.heap.size, 4, none⟩ = some (.slice none 0 0) := R.cell 4
      have e5 : W.cell? ⟨w.heap.size, 5, none⟩ = some (.slice none 0 0) := R.cell 5
      have e6 : W.cell? ⟨w.heap.size, 6, none⟩ = some (.int .i64 0) := R.cell 6
      have e7 : W.cell? ⟨w.heap.size, 7, none⟩ = some (.slice none 0 0) := R.cell 7
      have e8 : W.cell? ⟨w.heap.size, 8, none⟩ = some (.slice none 0 0) := R.cell 8
      have e9 : W.cell? ⟨w.heap.size, 9, none⟩ = some (.slice none 0 0) := R.cell 9
      refine bodyPost_ret (v := .agg #[.slice A2 x.keys.length c2, .slice A3 x.used.length c3, .slice Av x.repos.length cv, .slice none 0 0, .slice none 0 0, .slice none 0 0, .int .i64 0, .slice none 0 0, .slice none 0 0, .slice none 0 0]) (by simp [results, Tryd.results18, go_sem, e0, e1, e2, e3, e4, e5, e6, e7, e8, e9]) rfl ?_
      rw [HXE.out]
      have hRd := HRead.out
      have hl7 := Rp.hn.lt hRd
      have hne : ∀ z ∈ g0 ++ (g1 ++ fv), w.heap.size + 1 ≤ z := fun z hz => by
        have h0 := HLO.out
        have := HZ.out
        have := HSZ.out
        simp only [List.mem_append] at hz
        rcases hz with hz | hz | hz
        · exact h0 z (by simp [hz])
        · exact h0 z (by simp [hz])
        · have := HLV.out z hz; omega
      have hkp : ∀ z ∈ g0 ++ (g1 ++ fv), W.heap[z]? = wo.heap[z]? := fun z hz => RO.block z (hl7 z hz) (by simp; have := hne z hz; omega)
      exact ⟨_, _, rfl, Rp.hn.keep hRd hkp, fun z hz => by have := hne z hz; omega, HBW⟩

set_option maxHeartbeats 4000000 in
set_option maxRecDepth 100000 in
theorem implHseNew_any {A0 A1 : Option Addr} {c0 c1 : Nat} {keys admins : List Int} {f0 f1 : List Nat} (w : World) (h0 : SlR Rp.int w A0 keys.length c0 keys f0) (h1 : SlR Rp.int w A1 admins.length c1 admins f1) (hk : keys.length ≤ 1048576) (ha : admins.length ≤ 1048576) :
    Calls Tryd.prog 19 #[.slice A0 keys.length c0, .slice A1 admins.length c1] w (FreshR Rp.hn w (hseNew keys admins)) := by
  replace h0 := h0.allocN (.cells #[.slice none 0 0, .slice none 0 0, .slice none 0 0, .slice none 0 0, .slice none 0 0, .slice none 0 0, .int .i64 0, .slice none 0 0, .slice none 0 0, .slice none 0 0] 44)
  replace h1 := h1.allocN (.cells #[.slice none 0 0, .slice none 0 0, .slice none 0 0, .slice none 0 0, .slice none 0 0, .slice none 0 0, .int .i64 0, .slice none 0 0, .slice none 0 0, .slice none 0 0] 44)
  have k1 := Blk.new w 44 #[.slice none 0 0, .slice none 0 0, .slice none 0 0, .slice none 0 0, .slice none 0 0, .slice none 0 0, .int .i64 0, .slice none 0 0, .slice none 0 0, .slice none 0 0]
  have HB0 := (Below.refl w.heap.size w).alloc (Nat.le_refl _) (.cells #[.slice none 0 0, .slice none 0 0, .slice none 0 0, .slice none 0 0, .slice none 0 0, .slice none 0 0, .int .i64 0, .slice none 0 0, .slice none 0 0, .slice none 0 0] 44)
  have hs0 : (w.alloc (.cells #[.slice none 0 0, .slice none 0 0, .slice none 0 0, .slice none 0 0, .slice none 0 0, .slice none 0 0, .int .i64 0, .slice none 0 0, .slice none 0 0, .slice none 0 0] 44)).heap.size = w.heap.size + 1 := by simp
  go_enter Tryd.func19, Tryd.ntmps19
  go_wp2_with fail
  refine (implMdlNew_any (keys := keys) (admins := admins) _ h0 h1 hk ha).mono ?_
  rintro e w1 ⟨cs, fp, rfl, hR, hnd, hlo, hfr, hb⟩
  rw [hs0] at hlo
  obtain ⟨x, hx⟩ : ∃ x, mdlNew keys admins = x := ⟨_, rfl⟩
  have hlen := mdlNew_len keys admins
  rw [hx] at hR hlen
  have HXE := hide (show hseNew keys admins = ⟨x.keys, x.used, x.repos.map (·.admin)⟩ by unfold hseNew; rw [hx])
  obtain ⟨A2, n2, c2, g0, A3, n3, c3, g1, A4, n4, c4, g2, rfl, rfl, s0, s1, s2⟩ := hR
  obtain rfl := s0.1
  obtain rfl := s1.1
  obtain rfl := s2.1
  replace k1 := k1.step hb
  have hz0 : w.heap.size < w1.heap.size := k1.lt
  replace HB0 := Below.then_ HB0 hb
  clear hb h0 h1 hx hs0
  have km := (Blk.new w1 25 #[.slice A2 x.keys.length c2, .slice A3 x.used.length c3, .slice A4 x.repos.length c4]).alloc (.cells #[.slice A2 x.keys.length c2, .slice A3 x.used.length c3, .slice none 0 0, .slice none 0 0, .slice none 0 0, .slice none 0 0, .int .i64 0, .slice none 0 0, .slice none 0 0, .slice none 0 0] 44)
  have kh := Blk.new (w1.alloc (.cells #[.slice A2 x.keys.length c2, .slice A3 x.used.length c3, .slice A4 x.repos.length c4] 25)) 44 #[.slice A2 x.keys.length c2, .slice A3 x.used.length c3, .slice none 0 0, .slice none 0 0, .slice none 0 0, .slice none 0 0, .int .i64 0, .slice none 0 0, .slice none 0 0, .slice none 0 0]
  rw [show (w1.alloc (.cells #[.slice A2 x.keys.length c2, .slice A3 x.used.length c3, .slice A4 x.repos.length c4] 25)).heap.size = w1.heap.size + 1 by simp] at kh
  replace k1 := (k1.alloc (.cells #[.slice A2 x.keys.length c2, .slice A3 x.used.length c3, .slice A4 x.repos.length c4] 25)).alloc (.cells #[.slice A2 x.keys.length c2, .slice A3 x.used.length c3, .slice none 0 0, .slice none 0 0, .slice none 0 0, .slice none 0 0, .int .i64 0, .slice none 0 0, .slice none 0 0, .slice none 0 0] 44)
  have LTW : ∀ z ∈ g0 ++ (g1 ++ g2), z < w1.heap.size := fun z hz => by
    simp only [List.mem_append] at hz
    rcases hz with hz | hz | hz
    · exact s0.lt z hz
    · exact s1.lt z hz
    · exact s2.lt z hz
  replace s0 := (s0.allocN (.cells #[.slice A2 x.keys.length c2, .slice A3 x.used.length c3, .slice A4 x.repos.length c4] 25)).allocN (.cells #[.slice A2 x.keys.length c2, .slice A3 x.used.length c3, .slice none 0 0, .slice none 0 0, .slice none 0 0, .slice none 0 0, .int .i64 0, .slice none 0 0, .slice none 0 0, .slice none 0 0] 44)
  replace s1 := (s1.allocN (.cells #[.slice A2 x.keys.length c2, .slice A3 x.used.length c3, .slice A4 x.repos.length c4] 25)).allocN (.cells #[.slice A2 x.keys.length c2, .slice A3 x.used.length c3, .slice none 0 0, .slice none 0 0, .slice none 0 0, .slice none 0 0, .int .i64 0, .slice none 0 0, .slice none 0 0, .slice none 0 0] 44)
  replace s2 := (s2.allocN (.cells #[.slice A2 x.keys.length c2, .slice A3 x.used.length c3, .slice A4 x.repos.length c4] 25)).allocN (.cells #[.slice A2 x.keys.length c2, .slice A3 x.used.length c3, .slice none 0 0, .slice none 0 0, .slice none 0 0, .slice none 0 0, .int .i64 0, .slice none 0 0, .slice none 0 0, .slice none 0 0] 44)
  have HSZ := hide (show ((w1.alloc (.cells #[.slice A2 x.keys.length c2, .slice A3 x.used.length c3, .slice A4 x.repos.length c4] 25)).alloc (.cells #[.slice A2 x.keys.length c2, .slice A3 x.used.length c3, .slice none 0 0, .slice none 0 0, .slice none 0 0, .slice none 0 0, .int .i64 0, .slice none 0 0, .slice none 0 0, .slice none 0 0] 44)).heap.size = w1.heap.size + 1 + 1 by simp)
  replace HB0 := (HB0.alloc HB0.size (.cells #[.slice A2 x.keys.length c2, .slice A3 x.used.length c3, .slice A4 x.repos.length c4] 25)).alloc (by have := HB0.size; simp; omega) (.cells #[.slice A2 x.keys.length c2, .slice A3 x.used.length c3, .slice none 0 0, .slice none 0 0, .slice none 0 0, .slice none 0 0, .int .i64 0, .slice none 0 0, .slice none 0 0, .slice none 0 0] 44)
  replace hfr := hfr.step (((Below.refl _ _).alloc (Nat.le_refl _) (.cells #[.slice A2 x.keys.length c2, .slice A3 x.used.length c3, .slice A4 x.repos.length c4] 25)).alloc (by simp) (.cells #[.slice A2 x.keys.length c2, .slice A3 x.used.length c3, .slice none 0 0, .slice none 0 0, .slice none 0 0, .slice none 0 0, .int .i64 0, .slice none 0 0, .slice none 0 0, .slice none 0 0] 44))
  have HFR := hide hfr
  have HND := hide hnd
  clear hnd
  have hlw : ∀ z ∈ g0 ++ (g1 ++ g2), z < w1.heap.size := LTW
  go_upto_region 3 with fail
  generalize hWC : (w1.alloc (.cells #[.slice A2 x.keys.length c2, .slice A3 x.used.length c3, .slice A4 x.repos.length c4] 25)).alloc (.cells #[.slice A2 x.keys.length c2, .slice A3 x.used.length c3, .slice none 0 0, .slice none 0 0, .slice none 0 0, .slice none 0 0, .int .i64 0, .slice none 0 0, .slice none 0 0, .slice none 0 0] 44) = wc at km kh k1 s0 s1 s2 HSZ HB0 HFR ⊢
  clear hWC hfr
  have HLO := hide hlo
  have HLT := hide (show (∀ z ∈ g0, z < w1.heap.size) ∧ (∀ z ∈ g1, z < w1.heap.size) ∧ (∀ z ∈ g2, z < w1.heap.size) from by
    refine ⟨fun z hz => ?_, fun z hz => ?_, fun z hz => ?_⟩
    all_goals exact hlw z (by simp [hz]))
  have HKM := hide (fun (W : World) (ho : Only [w1.heap.size + 1] wc W) => km.only ho (by simp))
  have HK1 := hide (fun (W : World) (ho : Only [w1.heap.size + 1] wc W) => k1.only ho (by simp; omega))
  have HS0 := hide (fun (W : World) (ho : Only [w1.heap.size + 1] wc W) => s0.only ho (fun z hz hm => by simp at hm; have := HLT.out.1 z hz; omega))
  have HS1 := hide (fun (W : World) (ho : Only [w1.heap.size + 1] wc W) => s1.only ho (fun z hz hm => by simp at hm; have := HLT.out.2.1 z hz; omega))
  have HS2 := hide (fun (W : World) (ho : Only [w1.heap.size + 1] wc W) => s2.only ho (fun z hz hm => by simp at hm; have := HLT.out.2.2 z hz; omega))
  have HBW0 := hide (fun (W : World) (ho : Only [w1.heap.size + 1] wc W) => HB0.trans (ho.below (fun z hz => by simp at hz; omega) HB0.size))
  have HKH := hide kh
  have HZ := hide hz0
  have HLN := hide hlen
  have um : wc.cell? ⟨w1.heap.size, 2, none⟩ = some (.slice A4 x.repos.length c4) := km.cell 2
  have hmx : x.repos.length ≤ 9223372036854775807 := s2.max
  clear LTW km k1 s0 s1 s2 HB0 kh hlo hlen hlw
  obtain ⟨j0, hj0, hy0, hy1, hy2⟩ := info_parts infoC_HR
  go_wp2_with fail
  go_loopw [20] (fun i wr => ∃ k : Nat, k ≤ x.repos.length ∧ i = .int .i64 k ∧ HsTo x wc (w1.heap.size + 1) [.slice A2 x.keys.length c2, .slice A3 x.used.length c3] k wr) (fun i _ => x.repos.length - (intOf i).toNat)
  case atStart => exact ⟨0, Nat.zero_le _, rfl, .slice none 0 0, HKH.out, by simpa using World.ownsRow_nil _ _ _ _, Only.refl _ _⟩
  case round =>
    obtain ⟨wo, hwo⟩ : ∃ wo, wo = wr := ⟨_, rfl⟩
    subst hwo
    obtain ⟨k, hk, rfl, v, kbr, hown, ho⟩ := hrel
    have s2r := HS2.out wo ho
    have kmr := HKM.out wo ho
    have um' : wo.cell? ⟨w1.heap.size, 2, none⟩ = some (.slice A4 x.repos.length c4) := kmr.cell 2
    have HKB := hide kbr
    have HOW := hide hown
    have HON := hide ho
    clear um kmr kbr hown ho
    by_cases hlt : k < x.repos.length
    · obtain ⟨b, o, B0, m0, d0, e0, B1, m1, d1, e1, rfl, hbl, hbm, q0, q1, q2, _, _, _⟩ := repo_cells s2r hlt
      have i0 : (0 : Int) ≤ (k : Int) := by omega
      have i1 : (k : Int) < (x.repos.length : Int) := by omega
      have HTK := hide (show ((x.repos.map (·.admin)).take (k + 1)).flatMap encHR = ((x.repos.map (·.admin)).take k).flatMap encHR ++ encHR x.repos[k].admin by
        rw [List.take_succ_eq_append_getElem (by simpa using hlt), List.flatMap_append, List.flatMap_singleton, List.getElem_map])
      have HNB := hide (show w1.heap.size + 1 ∉ vblk v from fun hm => by have := (ownsRow_lt HOW.out _ hm).1; have := HSZ.out; omega)
      have HK3 := hide (show k + 1 ≤ 3 by have := HLN.out; omega)
      have HSo := hide (show wc.heap.size ≤ wo.heap.size from HON.out.size)
      have u0 : wo.cell? ⟨w1.heap.size + 1, 2, none⟩ = some v := HKB.out.cell 2
      generalize x.repos[k].admin = ad at q0 HTK
      clear s2r hbl hbm
      have HBX := hide (((Below.refl wo.heap.size wo).alloc (Nat.le_refl _) (.cells #[.int .i64 ad, .slice B0 m0 d0, .slice B1 m1 d1] 52)).alloc (by simp) (.cells (encHR ad).toArray 68))
      have HSX := hide (show ((wo.alloc (.cells #[.int .i64 ad, .slice B0 m0 d0, .slice B1 m1 d1] 52)).alloc (.cells (encHR ad).toArray 68)).heap.size = wo.heap.size + 1 + 1 by simp)
      have ua := cell_alloc u0 (.cells #[.int .i64 ad, .slice B0 m0 d0, .slice B1 m1 d1] 52)
      unfold encHR at HBX HSX
      have HNE := hide (show ∀ j u, [Value.int .i64 ad, .slice none 0 0, .slice none 0 0][j]? = some u → ((wo.alloc (.cells #[.int .i64 ad, .slice B0 m0 d0, .slice B1 m1 d1] 52)).alloc (.cells #[.int .i64 ad, .slice none 0 0, .slice none 0 0] 68)).cell? ((⟨wo.heap.size + 1, 0, none⟩ : Addr).add j) = some u from by
        have := news_alloc (wo.alloc (.cells #[.int .i64 ad, .slice B0 m0 d0, .slice B1 m1 d1] 52)) [.int .i64 ad, .slice none 0 0, .slice none 0 0] 68
        simpa using this)
      have HONE := hide (encHR_one ad)
      unfold encHR at HONE
      go_wp2_with (at_builtin; refine wpList_append_lies _ rfl _ _ 39 rfl wc.heap.size 68 j0 _ 3 56 Tryd.underlying39 hj0 hy0 hy1 hy2 rfl (by decide) v k _ rfl (ownsRow_keep HOW.out (fun z hz => HBX.out.block z (ownsRow_lt HOW.out z hz).2)) ⟨wo.heap.size + 1, 0, none⟩ 1 1 [.int .i64 ad, .slice none 0 0, .slice none 0 0] rfl rfl HNE.out HONE.out (by decide) (by have := HK3.out; unfold maxLen; omega) (by have := HK3.out; omega) (by have := HSo.out; have := HSX.out; omega) (wo.heap.size + 1 + 1) HSX.out ?_)
      intro g cap w6 ho2 hgr hor hlt2
      have HNw := hide ho2
      have HOa := hide (show Only [w1.heap.size + 1] wc w6 from (HON.out.then_below HBX.out).then_only (grown_only hgr) (fun z hz => .inr (ownsRow_lt HOW.out z hz).1))
      have k6 := (HKB.out.step HBX.out).only (grown_only hgr) HNB.out
      have cb6 := k6.cell 2
      have zb6 := blk_frozen k6 2
      simp at cb6
      have HREL := hide (show HsTo x wc (w1.heap.size + 1) [.slice A2 x.keys.length c2, .slice A3 x.used.length c3] (k + 1) (w6.setCell ⟨w1.heap.size + 1, 2, none⟩ (.slice (some ⟨g, 0, none⟩) (k + 1) cap)) from
        ⟨_, by simpa using k6.put 2 (.slice (some ⟨g, 0, none⟩) (k + 1) cap), by rw [HTK.out]; exact ownsRow_keep HNw.out (fun z hz => (only_setCell w6 _ 2 _).block z (ownsRow_lt HNw.out z hz).2 (by simp; have := (ownsRow_lt HNw.out z hz).1; have := HSZ.out; omega)), HOa.out.trans (only_setCell w6 _ 2 _)⟩)
      clear ho2 hgr hor hlt2 k6 u0 ua q0 q1 q2
      go_wp2
      exact ⟨⟨k + 1, by omega, by go_num, HREL.out⟩, by simp [intOf]; omega⟩
    · have hk' : k = (x.repos.map (·.admin)).length := by simp; omega
      have hown := HOW.out
      rw [hk', List.take_of_length_le (Nat.le_refl _)] at hown
      obtain ⟨Av, cv, fv, rfl, hsl, hlv, hnv, hfv⟩ := own_sl (hk := encHR_len) (h1 := encHR_one) hown
      have hrl : (x.repos.map (·.admin)).length = x.repos.length := by simp
      rw [hrl] at hsl
      have t0 := HS0.out wo HON.out
      have t1 := HS1.out wo HON.out
      have HRead := hide (show Rp.hn.R wo ([.slice A2 x.keys.length c2, .slice A3 x.used.length c3] ++ .slice Av x.repos.length cv :: restHN) ⟨x.keys, x.used, x.repos.map (·.admin)⟩ (g0 ++ (g1 ++ fv)) from ⟨_, _, _, g0, _, _, _, g1, _, _, _, fv, rfl, rfl, t0, t1, hsl⟩)
      have HLV := hide hlv
      have HNV := hide hnv
      have HFV := hide hfv
      have hhf := HFR.out
      have HF0 := hide (show Free wo g0 ∧ Free wo g1 from ⟨hhf.left.keep fun z hz => HON.out.block z (hhf.left.lt z hz) (by simp; have := HLT.out.1 z hz; omega), hhf.right.left.keep fun z hz => HON.out.block z (hhf.right.left.lt z hz) (by simp; have := HLT.out.2.1 z hz; omega)⟩)
      clear hhf
      have kz := HK1.out wo HON.out
      have HBB := hide (HBW0.out wo HON.out)
      have y0 := blk_frozen kz 0
      have d0 : wo.cell? ⟨w.heap.size, 0, none⟩ = some (.slice none 0 0) := kz.cell 0
      have y1 := blk_frozen kz 1
      have d1 : wo.cell? ⟨w.heap.size, 1, none⟩ = some (.slice none 0 0) := kz.cell 1
      have y2 := blk_frozen kz 2
      have d2 : wo.cell? ⟨w.heap.size, 2, none⟩ = some (.slice none 0 0) := kz.cell 2
      have y3 := blk_frozen kz 3
      have d3 : wo.cell? ⟨w.heap.size, 3, none⟩ = some (.slice none 0 0) := kz.cell 3
      have y4 := blk_frozen kz 4
      have d4 : wo.cell? ⟨w.heap.size, 4, none⟩ = some (.slice none 0 0) := kz.cell 4
      have y5 := blk_frozen kz 5
      have d5 : wo.cell? ⟨w.heap.size, 5, none⟩ = some (.slice none 0 0) := kz.cell 5
      have y6 := blk_frozen kz 6
      have d6 : wo.cell? ⟨w.heap.size, 6, none⟩ = some (.int .i64 0) := kz.cell 6
      have y7 := blk_frozen kz 7
      have d7 : wo.cell? ⟨w.heap.size, 7, none⟩ = some (.slice none 0 0) := kz.cell 7
      have y8 := blk_frozen kz 8
      have d8 : wo.cell? ⟨w.heap.size, 8, none⟩ = some (.slice none 0 0) := kz.cell 8
      have y9 := blk_frozen kz 9
      have d9 : wo.cell? ⟨w.heap.size, 9, none⟩ = some (.slice none 0 0) := kz.cell 9
      have r0 : Blk (wo.setCell ⟨w.heap.size, 0, none⟩ (.slice A2 x.keys.length c2)) w.heap.size 44 #[.slice A2 x.keys.length c2, .slice none 0 0, .slice none 0 0, .slice none 0 0, .slice none 0 0, .slice none 0 0, .int .i64 0, .slice none 0 0, .slice none 0 0, .slice none 0 0] := by simpa using kz.put 0 (.slice A2 x.keys.length c2)
      have r1 : Blk ((wo.setCell ⟨w.heap.size, 0, none⟩ (.slice A2 x.keys.length c2)).setCell ⟨w.heap.size, 1, none⟩ (.slice A3 x.used.length c3)) w.heap.size 44 #[.slice A2 x.keys.length c2, .slice A3 x.used.length c3, .slice none 0 0, .slice none 0 0, .slice none 0 0, .slice none 0 0, .int .i64 0, .slice none 0 0, .slice none 0 0, .slice none 0 0] := by simpa using r0.put 1 (.slice A3 x.used.length c3)
      have r2 : Blk (((wo.setCell ⟨w.heap.size, 0, none⟩ (.slice A2 x.keys.length c2)).setCell ⟨w.heap.size, 1, none⟩ (.slice A3 x.used.length c3)).setCell ⟨w.heap.size, 2, none⟩ (.slice Av x.repos.length cv)) w.heap.size 44 #[.slice A2 x.keys.length c2, .slice A3 x.used.length c3, .slice Av x.repos.length cv, .slice none 0 0, .slice none 0 0, .slice none 0 0, .int .i64 0, .slice none 0 0, .slice none 0 0, .slice none 0 0] := by simpa using r1.put 2 (.slice Av x.repos.length cv)
      have r3 : Blk ((((wo.setCell ⟨w.heap.size, 0, none⟩ (.slice A2 x.keys.length c2)).setCell ⟨w.heap.size, 1, none⟩ (.slice A3 x.used.length c3)).setCell ⟨w.heap.size, 2, none⟩ (.slice Av x.repos.length cv)).setCell ⟨w.heap.size, 3, none⟩ (.slice none 0 0)) w.heap.size 44 #[.slice A2 x.keys.length c2, .slice A3 x.used.length c3, .slice Av x.repos.length cv, .slice none 0 0, .slice none 0 0, .slice none 0 0, .int .i64 0, .slice none 0 0, .slice none 0 0, .slice none 0 0] := by simpa using r2.put 3 (.slice none 0 0)
      have r4 : Blk (((((wo.setCell ⟨w.heap.size, 0, none⟩ (.slice A2 x.keys.length c2)).setCell ⟨w.heap.size, 1, none⟩ (.slice A3 x.used.length c3)).setCell ⟨w.heap.size, 2, none⟩ (.slice Av x.repos.length cv)).setCell ⟨w.heap.size, 3, none⟩ (.slice none 0 0)).setCell ⟨w.heap.size, 4, none⟩ (.slice none 0 0)) w.heap.size 44 #[.slice A2 x.keys.length c2, .slice A3 x.used.length c3, .slice Av x.repos.length cv, .slice none 0 0, .slice none 0 0, .slice none 0 0, .int .i64 0, .slice none 0 0, .slice none 0 0, .slice none 0 0] := by simpa using r3.put 4 (.slice none 0 0)
      have r5 : Blk ((((((wo.setCell ⟨w.heap.size, 0, none⟩ (.slice A2 x.keys.length c2)).setCell ⟨w.heap.size, 1, none⟩ (.slice A3 x.used.length c3)).setCell ⟨w.heap.size, 2, none⟩ (.slice Av x.repos.length cv)).setCell ⟨w.heap.size, 3, none⟩ (.slice none 0 0)).setCell ⟨w.heap.size, 4, none⟩ (.slice none 0 0)).setCell ⟨w.heap.size, 5, none⟩ (.slice none 0 0)) w.heap.size 44 #[.slice A2 x.keys.length c2, .slice A3 x.used.length c3, .slice Av x.repos.length cv, .slice none 0 0, .slice none 0 0, .slice none 0 0, .int .i64 0, .slice none 0 0, .slice none 0 0, .slice none 0 0] := by simpa using r4.put 5 (.slice none 0 0)
      have r6 : Blk (((((((wo.setCell ⟨w.heap.size, 0, none⟩ (.slice A2 x.keys.length c2)).setCell ⟨w.heap.size, 1, none⟩ (.slice A3 x.used.length c3)).setCell ⟨w.heap.size, 2, none⟩ (.slice Av x.repos.length cv)).setCell ⟨w.heap.size, 3, none⟩ (.slice none 0 0)).setCell ⟨w.heap.size, 4, none⟩ (.slice none 0 0)).setCell ⟨w.heap.size, 5, none⟩ (.slice none 0 0)).setCell ⟨w.heap.size, 6, none⟩ (.int .i64 0)) w.heap.size 44 #[.slice A2 x.keys.length c2, .slice A3 x.used.length c3, .slice Av x.repos.length cv, .slice none 0 0, .slice none 0 0, .slice none 0 0, .int .i64 0, .slice none 0 0, .slice none 0 0, .slice none 0 0] := by simpa using r5.put 6 (.int .i64 0)
      have r7 : Blk ((((((((wo.setCell ⟨w.heap.size, 0, none⟩ (.slice A2 x.keys.length c2)).setCell ⟨w.heap.size, 1, none⟩ (.slice A3 x.used.length c3)).setCell ⟨w.heap.size, 2, none⟩ (.slice Av x.repos.length cv)).setCell ⟨w.heap.size, 3, none⟩ (.slice none 0 0)).setCell ⟨w.heap.size, 4, none⟩ (.slice none 0 0)).setCell ⟨w.heap.size, 5, none⟩ (.slice none 0 0)).setCell ⟨w.heap.size, 6, none⟩ (.int .i64 0)).setCell ⟨w.heap.size, 7, none⟩ (.slice none 0 0)) w.heap.size 44 #[.slice A2 x.keys.length c2, .slice A3 x.used.length c3, .slice Av x.repos.length cv, .slice none 0 0, .slice none 0 0, .slice none 0 0, .int .i64 0, .slice none 0 0, .slice none 0 0, .slice none 0 0] := by simpa using r6.put 7 (.slice none 0 0)
      have r8 : Blk (((((((((wo.setCell ⟨w.heap.size, 0, none⟩ (.slice A2 x.keys.length c2)).setCell ⟨w.heap.size, 1, none⟩ (.slice A3 x.used.length c3)).setCell ⟨w.heap.size, 2, none⟩ (.slice Av x.repos.length cv)).setCell ⟨w.heap.size, 3, none⟩ (.slice none 0 0)).setCell ⟨w.heap.size, 4, none⟩ (.slice none 0 0)).setCell ⟨w.heap.size, 5, none⟩ (.slice none 0 0)).setCell ⟨w.heap.size, 6, none⟩ (.int .i64 0)).setCell ⟨w.heap.size, 7, none⟩ (.slice none 0 0)).setCell ⟨w.heap.size, 8, none⟩ (.slice none 0 0)) w.heap.size 44 #[.slice A2 x.keys.length c2, .slice A3 x.used.length c3, .slice Av x.repos.length cv, .slice none 0 0, .slice none 0 0, .slice none 0 0, .int .i64 0, .slice none 0 0, .slice none 0 0, .slice none 0 0] := by simpa using r7.put 8 (.slice none 0 0)
      have r9 : Blk ((((((((((wo.setCell ⟨w.heap.size, 0, none⟩ (.slice A2 x.keys.length c2)).setCell ⟨w.heap.size, 1, none⟩ (.slice A3 x.used.length c3)).setCell ⟨w.heap.size, 2, none⟩ (.slice Av x.repos.length cv)).setCell ⟨w.heap.size, 3, none⟩ (.slice none 0 0)).setCell ⟨w.heap.size, 4, none⟩ (.slice none 0 0)).setCell ⟨w.heap.size, 5, none⟩ (.slice none 0 0)).setCell ⟨w.heap.size, 6, none⟩ (.int .i64 0)).setCell ⟨w.heap.size, 7, none⟩ (.slice none 0 0)).setCell ⟨w.heap.size, 8, none⟩ (.slice none 0 0)).setCell ⟨w.heap.size, 9, none⟩ (.slice none 0 0)) w.heap.size 44 #[.slice A2 x.keys.length c2, .slice A3 x.used.length c3, .slice Av x.repos.length cv, .slice none 0 0, .slice none 0 0, .slice none 0 0, .int .i64 0, .slice none 0 0, .slice none 0 0, .slice none 0 0] := by simpa using r8.put 9 (.slice none 0 0)
      have R := hide r9
      clear r0 r1 r2 r3 r4 r5 r6 r7 r8 r9
      have RO := hide (((((((((((Only.refl [w.heap.size] wo).setCell (p := ⟨w.heap.size, 0, none⟩) (.inl (by simp)) (.slice A2 x.keys.length c2)).setCell (p := ⟨w.heap.size, 1, none⟩) (.inl (by simp)) (.slice A3 x.used.length c3)).setCell (p := ⟨w.heap.size, 2, none⟩) (.inl (by simp)) (.slice Av x.repos.length cv)).setCell (p := ⟨w.heap.size, 3, none⟩) (.inl (by simp)) (.slice none 0 0)).setCell (p := ⟨w.heap.size, 4, none⟩) (.inl (by simp)) (.slice none 0 0)).setCell (p := ⟨w.heap.size, 5, none⟩) (.inl (by simp)) (.slice none 0 0)).setCell (p := ⟨w.heap.size, 6, none⟩) (.inl (by simp)) (.int .i64 0)).setCell (p := ⟨w.heap.size, 7, none⟩) (.inl (by simp)) (.slice none 0 0)).setCell (p := ⟨w.heap.size, 8, none⟩) (.inl (by simp)) (.slice none 0 0)).setCell (p := ⟨w.heap.size, 9, none⟩) (.inl (by simp)) (.slice none 0 0))
      have HBW := hide ((((((((((HBB.out.setCell (p := ⟨w.heap.size, 0, none⟩) (Nat.le_refl _) (.slice A2 x.keys.length c2)).setCell (p := ⟨w.heap.size, 1, none⟩) (Nat.le_refl _) (.slice A3 x.used.length c3)).setCell (p := ⟨w.heap.size, 2, none⟩) (Nat.le_refl _) (.slice Av x.repos.length cv)).setCell (p := ⟨w.heap.size, 3, none⟩) (Nat.le_refl _) (.slice none 0 0)).setCell (p := ⟨w.heap.size, 4, none⟩) (Nat.le_refl _) (.slice none 0 0)).setCell (p := ⟨w.heap.size, 5, none⟩) (Nat.le_refl _) (.slice none 0 0)).setCell (p := ⟨w.heap.size, 6, none⟩) (Nat.le_refl _) (.int .i64 0)).setCell (p := ⟨w.heap.size, 7, none⟩) (Nat.le_refl _) (.slice none 0 0)).setCell (p := ⟨w.heap.size, 8, none⟩) (Nat.le_refl _) (.slice none 0 0)).setCell (p := ⟨w.heap.size, 9, none⟩) (Nat.le_refl _) (.slice none 0 0))
      have HKB2 := hide (show Blk wo (w1.heap.size + 1) 44 #[.slice A2 x.keys.length c2, .slice A3 x.used.length c3, .slice Av x.repos.length cv, .slice none 0 0, .slice none 0 0, .slice none 0 0, .int .i64 0, .slice none 0 0, .slice none 0 0, .slice none 0 0] from by have hq := HKB.out; rw [hrl] at hq; exact hq)
      clear hown hsl hlv hnv hfv t0 t1 s2r kz HBB HOW hk' hrl
      go_wp2_with ((refine wpList_load_row rfl 44 (.tmp 6) rfl _ rfl _ _ _ _ HKB2.out.out Tryd.underlying44 rfl size_HseHouse ?_))
      have R := R.out
      have RO := RO.out
      have HBW := HBW.out
      generalize ((((((((((wo.setCell ⟨w.heap.size, 0, none⟩ (.slice A2 x.keys.length c2)).setCell ⟨w.heap.size, 1, none⟩ (.slice A3 x.used.length c3)).setCell ⟨w.heap.size, 2, none⟩ (.slice Av x.repos.length cv)).setCell ⟨w.heap.size, 3, none⟩ (.slice none 0 0)).setCell ⟨w.heap.size, 4, none⟩ (.slice none 0 0)).setCell ⟨w.heap.size, 5, none⟩ (.slice none 0 0)).setCell ⟨w.heap.size, 6, none⟩ (.int .i64 0)).setCell ⟨w.heap.size, 7, none⟩ (.slice none 0 0)).setCell ⟨w.heap.size, 8, none⟩ (.slice none 0 0)).setCell ⟨w.heap.size, 9, none⟩ (.slice none 0 0)) = W at R RO HBW ⊢
      have e0 : W.cell? ⟨w.heap.size, 0, none⟩ = some (.slice A2 x.keys.length c2) := R.cell 0
      have e1 : W.cell? ⟨w.heap.size, 1, none⟩ = some (.slice A3 x.used.length c3) := R.cell 1
      have e2 : W.cell? ⟨w.heap.size, 2, none⟩ = some (.slice Av x.repos.length cv) := R.cell 2
      have e3 : W.cell? ⟨w.heap.size, 3, none⟩ = some (.slice none 0 0) := R.cell 3
      have e4 : W.cell? ⟨w.heap.size, 4, none⟩ = some (.slice none 0 0) := R.cell 4
      have e5 : W.cell? ⟨w.heap.size, 5, none⟩ = some (.slice none 0 0) := R.cell 5
      have e6 : W.cell? ⟨w.heap.size, 6, none⟩ = some (.int .i64 0) := R.cell 6
      have e7 : W.cell? ⟨w.heap.size, 7, none⟩ = some (.slice none 0 0) := R.cell 7
      have e8 : W.cell? ⟨w.heap.size, 8, none⟩ = some (.slice none 0 0) := R.cell 8
      have e9 : W.cell? ⟨w.heap.size, 9, none⟩ = some (.slice none 0 0) := R.cell 9
      refine bodyPost_ret (v := .agg #[.slice A2 x.keys.length c2, .slice A3 x.used.length c3, .slice Av x.repos.length cv, .slice none 0 0, .slice none 0 0, .slice none 0 0, .int .i64 0, .slice none 0 0, .slice none 0 0, .slice none 0 0]) (by simp [results, Tryd.results19, go_sem, e0, e1, e2, e3, e4, e5, e6, e7, e8, e9]) rfl ?_
      rw [HXE.out]
      have hRd := HRead.out
      have hl7 := Rp.hn.lt hRd
      have hne : ∀ z ∈ g0 ++ (g1 ++ fv), w.heap.size + 1 ≤ z := fun z hz => by
        have h0 := HLO.out
        have := HZ.out
        have := HSZ.out
        simp only [List.mem_append] at hz
        rcases hz with hz | hz | hz
        · exact h0 z (by simp [hz])
        · exact h0 z (by simp [hz])
        · have := HLV.out z hz; omega
      have hkp : ∀ z ∈ g0 ++ (g1 ++ fv), W.heap[z]? = wo.heap[z]? := fun z hz => RO.block z (hl7 z hz) (by simp; have := hne z hz; omega)
      have hnd := HND.out
      refine ⟨_, _, rfl, Rp.hn.keep hRd hkp, List.nodup_append.2 ⟨(List.nodup_append.1 hnd).1, List.nodup_append.2 ⟨(List.nodup_append.1 (List.nodup_append.1 hnd).2.1).1, HNV.out, fun a ha b hb e => ?_⟩, fun a ha b hb e => ?_⟩, fun z hz => by have := hne z hz; omega, (HF0.out.1.append (HF0.out.2.append HFV.out)).keep hkp, HBW⟩
      · subst e
        have := HLT.out.2.1 a ha
        have := HLV.out a hb
        have := HSZ.out
        omega
      · subst e
        rcases List.mem_append.1 hb with hb | hb
        · exact (List.nodup_append.1 hnd).2.2 a ha a (by simp [hb]) rfl
        · have := HLT.out.1 a ha
          have := HLV.out a hb
          have := HSZ.out
          omega
end Go.Proofs.YtnogkkcmcnhodaaDoor
