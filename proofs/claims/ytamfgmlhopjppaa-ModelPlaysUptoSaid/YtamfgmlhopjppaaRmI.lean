/-
  The document's model: bytes.
-/
import Derived.Test.YtamfgmlhopjppaaRmH
import Derived.Test.YtamfgmlhopjppaaModP
import Derived.Test.YtamfgmlhopjppaaH9
namespace Go.Proofs.Ytamfgmlhopjppaa
open Go.RowKit Go.ChangeShapes Go.WideShapes Go.ChangeAt

def bytesB (o : OpL) (d : ByteArray) (a : AskL) : Bool := putB o d a && decide (a.data.size ≤ 512 ∧ o.size = (a.data.size : Int) ∧ o.hashes = hashesB a.data)
theorem bytes_put (asks : List AskL) (o : OpL) (d : ByteArray) : asks.any (bytesB o d) = putP asks o d := by
  have hd : ∀ a, putB o d a = true → a.data = d := fun a h => by
    unfold putB at h
    exact (of_decide_eq_true h).2.2.2
  unfold putP
  rw [Bool.eq_iff_iff, Bool.and_eq_true, List.any_eq_true, List.any_eq_true]
  constructor
  · rintro ⟨a, ha, h⟩
    unfold bytesB at h
    rw [Bool.and_eq_true] at h
    obtain ⟨h1, h2⟩ := h
    rw [hd a h1] at h2
    exact ⟨h2, a, ha, h1⟩
  · rintro ⟨h2, a, ha, h1⟩
    refine ⟨a, ha, ?_⟩
    unfold bytesB
    rw [Bool.and_eq_true, hd a h1]
    exact ⟨h1, h2⟩
/-- the document's Make of any bytes -/
theorem r_make_any (s : ByteArray) (w : World) : Calls Try.prog 52 #[.string s] w fun e w' => ∃ (n : Int) (A : Option Addr) (H : List ByteArray) (c : Nat) (x : Int) (S : Nat → Prop), e = .returned (.tuple #[.agg #[.int .i64 n, .slice A H.length c], .int .i64 x]) ∧ Rp.str.slice.R w' S [.slice A H.length c] H ∧ Hid (((x == 0) = true ∧ s.size ≤ 512 ∧ n = (s.size : Int) ∧ H = hashesB s) ∨ ((x == 0) = false ∧ 512 < s.size)) ∧ Kp No w w' := by
  by_cases h : 512 < s.size
  · refine (r_make_big s w h).mono ?_
    rintro e w' ⟨rfl, hk⟩
    exact ⟨0, none, [], 0, 4, No, rfl, Rp.none_ _ _ _, Lib.hid (.inr ⟨rfl, h⟩), hk⟩
  · refine (r_make s w (by omega)).mono ?_
    rintro e w' ⟨⟨A, c, rfl, hown⟩, hk⟩
    exact ⟨_, A, _, c, 0, _, rfl, hown.readFrom, Lib.hid (.inl ⟨rfl, by omega, rfl, rfl⟩), hk⟩
set_option maxRecDepth 100000 in
set_option maxHeartbeats 16000000 in
theorem r_bytes26 (o : OpL) (d : ByteArray) (A : Option Addr) (c : Nat) (SO : Nat → Prop) (r : Nat) (R : RV) (F : Nat → Prop) (w : World) (hM : RMAt w r R F) (hal : R.asks.length ≤ 1000000) (hh : Rp.str.slice.R w SO [.slice A o.hashes.length c] o.hashes) :
    Calls Try.prog 38 #[.pointer (some ⟨r, 0, none⟩), opV o (.slice A o.hashes.length c), .string d] w fun e w' => e = .returned (.bool (putP R.asks o d)) ∧ Kp No w w' := by
  obtain ⟨y, hy⟩ : ∃ v, w.heap.size = v := ⟨_, rfl⟩
  obtain ⟨wa, hwa⟩ : ∃ v, w.alloc (.cells #[.int .i64 o.n, .int .i64 o.epoch, .int .i64 o.kind, .int .i64 o.site, .int .i64 o.client, .int .i64 o.seq, .string o.name, .int .i64 o.size, .slice A o.hashes.length c] 58) = v := ⟨_, rfl⟩
  have hka : Kp No w wa := by rw [← hwa]; exact (Kp.refl _ _).alloc _
  have hba : Blk wa y 58 [.int .i64 o.n, .int .i64 o.epoch, .int .i64 o.kind, .int .i64 o.site, .int .i64 o.client, .int .i64 o.seq, .string o.name, .int .i64 o.size, .slice A o.hashes.length c] := by rw [← hwa, ← hy]; exact Blk.new w _ _
  obtain ⟨lv, av, S, hin, _⟩ := hM.keptNo hka
  obtain ⟨Av, cv, rfl⟩ := hin.ask.shape
  have HBR := Lib.hid hin.blk
  have HAS := Lib.hid hin.ask.readFrom
  have HBY := Lib.hid hba
  have HKA := Lib.hid hka
  have HH := Lib.hid (Rp.str.slice.keptNo hh hka)
  rw [← bytes_put]
  obtain ⟨l, hl⟩ : ∃ l, R.asks = l := ⟨_, rfl⟩
  rw [hl] at HAS HBR hal ⊢
  have hli : (l.length : Int) ≤ 1000000 := by omega
  unfold opV
  clear hka hba hin hM hh hl hal
  go_enter Try.func38, Try.ntmps38
  go_wp2_with fail
  try rw [hwa]
  try rw [hy]
  clear hwa hy
  go_loopw [7] (fun iv wr => ∃ i : Nat, i ≤ l.length ∧ iv = .int .i64 (i : Int) ∧ Hid (∀ a ∈ l.take i, bytesB o d a = false) ∧ Hid (Kp No wa wr)) (fun iv _ => l.length - (intOf iv).toNat)
  case atStart => exact ⟨0, Nat.zero_le _, rfl, Lib.hid (fun a h => by simp at h), Lib.hid (Kp.refl _ _)⟩
  case round =>
    obtain ⟨i, hi, rfl, HNO, HKR⟩ := hrel
    have r1 : wr.cell? ⟨r, 1, none⟩ = some _ := Blk.cell (HBR.out.kept HKR.out (fun z => z)) rfl
    by_cases hlt : i < l.length
    case neg =>
      obtain rfl : i = l.length := by omega
      have HNA : Hid (l.any (bytesB o d) = false) := Lib.hid (by
        rw [List.any_eq_false]
        intro a ha
        rw [HNO.out a (by rw [List.take_length]; exact ha)]; simp)
      go_wp2_with fail
      go_ret
      exact ⟨by rw [HNA.out]; rfl, HKA.out.trans' HKR.out⟩
    case pos =>
    have hlti : (i : Int) < (l.length : Int) := by omega
    obtain ⟨a, ha⟩ : ∃ a, l[i]? = some a := ⟨_, List.getElem?_eq_getElem hlt⟩
    obtain ⟨ad, rfl, _, hcell, hn⟩ := Rp.at_ask (Rp.ask.slice.keptNo HAS.out HKR.out) ha
    obtain ⟨z0, z1, z2, z3, z4, z5, z6⟩ := ask_cells hcell
    have HTK : Hid (l.take (i + 1) = l.take i ++ [a]) := Lib.hid (by
      obtain ⟨e1, e2⟩ := List.getElem?_eq_some_iff.1 ha
      rw [List.take_succ_eq_append_getElem e1, e2])
    have HIN := Lib.hid (List.mem_of_getElem? ha)
    obtain ⟨x, hx⟩ : ∃ v, wr.heap.size = v := ⟨_, rfl⟩
    obtain ⟨w1, hw1⟩ : ∃ v, wr.alloc (.cells #[.int .i64 a.kind, .int .i64 a.client, .int .i64 a.seq, .string a.name, .string a.data, .int .i64 a.mode, .int .i64 a.lag] 34) = v := ⟨_, rfl⟩
    have hk1 : Kp No wr w1 := by rw [← hw1]; exact (Kp.refl _ _).alloc _
    have hb1 : Blk w1 x 34 [.int .i64 a.kind, .int .i64 a.client, .int .i64 a.seq, .string a.name, .string a.data, .int .i64 a.mode, .int .i64 a.lag] := by rw [← hw1, ← hx]; exact Blk.new wr _ _
    have HB1 := Lib.hid hb1
    have HK1 := Lib.hid (HKR.out.trans' hk1)
    have x4 : w1.cell? ⟨x, 4, none⟩ = some _ := Blk.cell hb1 rfl
    have HMK := Lib.hid (r_make_any a.data w1)
    clear hcell ha hn hk1 hb1
    go_upto_region 5 with fail
    try rw [hw1]
    try rw [hx]
    clear hw1 hx z0 z1 z2 z3 z4 z5 z6 r1
    go_wp2_with fail
    refine HMK.out.mono ?_
    rintro e w2 ⟨n, A2, H, c2, ex, S2, rfl, hr2, HEX, hk2⟩
    obtain ⟨u, hu⟩ : ∃ v, w2.heap.size = v := ⟨_, rfl⟩
    obtain ⟨w3, hw3⟩ : ∃ v, w2.alloc (.cells #[.int .i64 n, .slice A2 H.length c2] 56) = v := ⟨_, rfl⟩
    have hk3 : Kp No w2 w3 := by rw [← hw3]; exact (Kp.refl _ _).alloc _
    have hb3 : Blk w3 u 56 [.int .i64 n, .slice A2 H.length c2] := by rw [← hw3, ← hu]; exact Blk.new w2 _ _
    have HK3 := Lib.hid (hk2.trans' hk3)
    have HKR2 := Lib.hid (HK1.out.trans' HK3.out)
    have hb1 := HB1.out.kept HK3.out (fun z => z)
    have hby := HBY.out.kept HKR2.out (fun z => z)
    have x1 : w3.cell? ⟨x, 1, none⟩ = some _ := Blk.cell hb1 rfl
    have x2 : w3.cell? ⟨x, 2, none⟩ = some _ := Blk.cell hb1 rfl
    have x3 : w3.cell? ⟨x, 3, none⟩ = some _ := Blk.cell hb1 rfl
    have x4 : w3.cell? ⟨x, 4, none⟩ = some _ := Blk.cell hb1 rfl
    have y4 : w3.cell? ⟨y, 4, none⟩ = some _ := Blk.cell hby rfl
    have y5 : w3.cell? ⟨y, 5, none⟩ = some _ := Blk.cell hby rfl
    have y6 : w3.cell? ⟨y, 6, none⟩ = some _ := Blk.cell hby rfl
    have y7 : w3.cell? ⟨y, 7, none⟩ = some _ := Blk.cell hby rfl
    have y8 : w3.cell? ⟨y, 8, none⟩ = some _ := Blk.cell hby rfl
    have u0 : w3.cell? ⟨u, 0, none⟩ = some _ := Blk.cell hb3 rfl
    have u1 : w3.cell? ⟨u, 1, none⟩ = some _ := Blk.cell hb3 rfl
    have HSA := Lib.hid (r_sameS n o.size H o.hashes A2 A c2 c w3 _ _ (Rp.str.slice.keptNo hr2 hk3) (Rp.str.slice.keptNo HH.out HKR2.out))
    clear hr2 hk2 hk3 hb3 hb1 hby HMK
    go_upto_region 6 with fail
    try rw [hw3]
    try rw [hu]
    clear hw3 hu
    by_cases e1 : a.client = o.client
    case neg =>
      have f : (a.client == o.client) = false := beq_eq_false_iff_ne.2 e1
      have HBB : Hid (bytesB o d a = false) := Lib.hid (by
        unfold bytesB putB
        rw [decide_eq_false (fun h => e1 h.1)]
        rfl)
      clear e1 HSA
      have HNO2 : Hid (∀ a ∈ l.take (i + 1), bytesB o d a = false) := Lib.hid (fun a ha => by
        rw [HTK.out] at ha
        rcases List.mem_append.1 ha with ha | ha
        · exact HNO.out a ha
        · rw [List.mem_singleton.1 ha]; exact HBB.out)
      go_wp2_with fail
      go_roundw
      case rel => exact ⟨i + 1, by omega, by go_num, HNO2, HKR2⟩
      case measure => simp [intOf]; omega
    have f0 : (a.client == o.client) = true := beq_iff_eq.2 e1
    by_cases e2 : a.seq = o.seq
    case neg =>
      have f : (a.seq == o.seq) = false := beq_eq_false_iff_ne.2 e2
      have HBB : Hid (bytesB o d a = false) := Lib.hid (by
        unfold bytesB putB
        rw [decide_eq_false (fun h => e2 h.2.1)]
        rfl)
      clear e1 e2 HSA
      have HNO2 : Hid (∀ a ∈ l.take (i + 1), bytesB o d a = false) := Lib.hid (fun a ha => by
        rw [HTK.out] at ha
        rcases List.mem_append.1 ha with ha | ha
        · exact HNO.out a ha
        · rw [List.mem_singleton.1 ha]; exact HBB.out)
      go_wp2_with fail
      go_roundw
      case rel => exact ⟨i + 1, by omega, by go_num, HNO2, HKR2⟩
      case measure => simp [intOf]; omega
    have f1 : (a.seq == o.seq) = true := beq_iff_eq.2 e2
    by_cases e3 : a.name = o.name
    case neg =>
      have f : (a.name.toList == o.name.toList) = false := by rw [bytes_list_beq]; exact decide_eq_false e3
      have HBB : Hid (bytesB o d a = false) := Lib.hid (by
        unfold bytesB putB
        rw [decide_eq_false (fun h => e3 h.2.2.1)]
        rfl)
      clear e1 e2 e3 HSA
      have HNO2 : Hid (∀ a ∈ l.take (i + 1), bytesB o d a = false) := Lib.hid (fun a ha => by
        rw [HTK.out] at ha
        rcases List.mem_append.1 ha with ha | ha
        · exact HNO.out a ha
        · rw [List.mem_singleton.1 ha]; exact HBB.out)
      go_wp2_with fail
      go_roundw
      case rel => exact ⟨i + 1, by omega, by go_num, HNO2, HKR2⟩
      case measure => simp [intOf]; omega
    have f2 : (a.name.toList == o.name.toList) = true := by rw [bytes_list_beq]; exact decide_eq_true e3
    by_cases e4 : a.data = d
    case neg =>
      have f : (a.data.toList == d.toList) = false := by rw [bytes_list_beq]; exact decide_eq_false e4
      have HBB : Hid (bytesB o d a = false) := Lib.hid (by
        unfold bytesB putB
        rw [decide_eq_false (fun h => e4 h.2.2.2)]
        rfl)
      clear e1 e2 e3 e4 HSA
      have HNO2 : Hid (∀ a ∈ l.take (i + 1), bytesB o d a = false) := Lib.hid (fun a ha => by
        rw [HTK.out] at ha
        rcases List.mem_append.1 ha with ha | ha
        · exact HNO.out a ha
        · rw [List.mem_singleton.1 ha]; exact HBB.out)
      go_wp2_with fail
      go_roundw
      case rel => exact ⟨i + 1, by omega, by go_num, HNO2, HKR2⟩
      case measure => simp [intOf]; omega
    have f3 : (a.data.toList == d.toList) = true := by rw [bytes_list_beq]; exact decide_eq_true e4
    have HPB : Hid (putB o d a = true) := Lib.hid (by unfold putB; exact decide_eq_true ⟨e1, e2, e3, e4⟩)
    clear e1 e2 e3 e4
    rcases HEX.out with ⟨hx0, hsz, hnn, hHH⟩ | ⟨hx0, hsz⟩
    case inr =>
      have HBB : Hid (bytesB o d a = false) := Lib.hid (by
        unfold bytesB
        rw [decide_eq_false (fun h => by omega), Bool.and_false])
      clear hsz HSA HEX
      have HNO2 : Hid (∀ a ∈ l.take (i + 1), bytesB o d a = false) := Lib.hid (fun a ha => by
        rw [HTK.out] at ha
        rcases List.mem_append.1 ha with ha | ha
        · exact HNO.out a ha
        · rw [List.mem_singleton.1 ha]; exact HBB.out)
      go_wp2_with fail
      go_roundw
      case rel => exact ⟨i + 1, by omega, by go_num, HNO2, HKR2⟩
      case measure => simp [intOf]; omega
    case inl =>
    obtain ⟨Q, hQ⟩ : ∃ Q, decide (n = o.size ∧ H = o.hashes) = Q := ⟨_, rfl⟩
    rw [hQ] at HSA
    have HBB : Hid (bytesB o d a = Q) := Lib.hid (by
      unfold bytesB
      rw [HPB.out, Bool.true_and, ← hQ]
      exact decide_eq_decide.2 ⟨fun h => ⟨by rw [hnn, h.2.1], by rw [hHH, h.2.2]⟩, fun h => ⟨hsz, by rw [← h.1, hnn], by rw [← h.2, hHH]⟩⟩)
    clear hsz hnn hHH hQ HEX
    go_wp2_with fail
    refine HSA.out.mono ?_
    rintro e w4 ⟨rfl, hk4⟩
    have HKR2 := Lib.hid (HKR2.out.trans' hk4)
    clear hk4 HSA x1 x2 x3 x4 y4 y5 y6 y7 y8 u0 u1
    cases Q
    case false =>
      have HNO2 : Hid (∀ a ∈ l.take (i + 1), bytesB o d a = false) := Lib.hid (fun a ha => by
        rw [HTK.out] at ha
        rcases List.mem_append.1 ha with ha | ha
        · exact HNO.out a ha
        · rw [List.mem_singleton.1 ha]; exact HBB.out)
      go_wp2_with fail
      go_roundw
      case rel => exact ⟨i + 1, by omega, by go_num, HNO2, HKR2⟩
      case measure => simp [intOf]; omega
    case true =>
      have HAN : Hid (l.any (bytesB o d) = true) := Lib.hid (List.any_eq_true.2 ⟨a, HIN.out, HBB.out⟩)
      go_wp2_with fail
      go_ret
      exact ⟨by rw [HAN.out]; rfl, HKA.out.trans' HKR2.out⟩
end Go.Proofs.Ytamfgmlhopjppaa
