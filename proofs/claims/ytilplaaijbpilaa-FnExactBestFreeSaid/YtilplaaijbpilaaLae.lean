/- Part of the proofs of this seat's laws: Lae. No condition. -/
import Derived.Test.YtilplaaijbpilaaTy
import Derived.Test.YtilplaaijbpilaaTIRall
import Derived.Test.YtilplaaijbpilaaLaa
import Derived.Test.YtilplaaijbpilaaLab
import Derived.Test.YtilplaaijbpilaaLac
set_option linter.unusedVariables false
set_option linter.unusedSimpArgs false
set_option linter.unusedSectionVars false
namespace Go.Vs
set_option maxRecDepth 100000
def ir4 : J := .seq (.reg none [⟨some 7, none, .box (.t 0)⟩,⟨some 14, none, .mv (.k (V.b false))⟩] [1, 2, 3, 4, 5, 6, 7]) (.seq (.seq (.reg none [⟨some 25, none, .mv (.t 3)⟩,⟨some 26, none, .len true (.t 25)⟩,⟨some 27, none, .bin .gtr .i (.t 26) (.k (V.i 1048576))⟩] [1, 2, 3, 4, 5, 6, 7, 27]) (.cond (.t 27) (.seq (.reg none [⟨some 14, none, .mv (.k (V.b true))⟩] [14]) (.ret)) (.skip))) (.seq (.reg none [⟨some 15, none, .mv (.k (V.i 1048576))⟩] [1, 2, 3, 4, 5, 6, 7, 15]) (.seq (.reg none [⟨some 28, none, .ld true 3 (.t 7)⟩,⟨some 29, none, .mv (.t 15)⟩,⟨some 30, none, .call 6 true [(.t 28), (.t 29)]⟩,⟨some 15, none, .mv (.t 30)⟩] [1, 2, 3, 4, 5, 6, 7, 15]) (.seq (.seq (.reg none [⟨some 31, none, .mv (.t 15)⟩,⟨some 32, none, .bin .lss .i (.t 31) (.k (V.i 0))⟩] [1, 2, 3, 4, 5, 6, 7, 15, 32]) (.cond (.t 32) (.seq (.reg none [⟨some 14, none, .mv (.k (V.b true))⟩] [14]) (.ret)) (.skip))) (.seq (.reg none [⟨some 33, none, .mv (.t 1)⟩,⟨some 34, none, .mv (.t 15)⟩,⟨some 35, none, .call 13 true [(.t 33), (.t 34)]⟩,⟨some 15, none, .mv (.t 35)⟩] [1, 2, 3, 4, 5, 6, 7, 15]) (.seq (.seq (.reg none [⟨some 36, none, .mv (.t 15)⟩,⟨some 37, none, .bin .lss .i (.t 36) (.k (V.i 0))⟩] [1, 2, 3, 4, 5, 6, 7, 15, 37]) (.cond (.t 37) (.seq (.reg none [⟨some 14, none, .mv (.k (V.b true))⟩] [14]) (.ret)) (.skip))) (.seq (.reg none [⟨some 38, none, .mv (.t 2)⟩,⟨some 39, none, .mv (.t 15)⟩,⟨some 40, none, .call 14 true [(.t 38), (.t 39)]⟩,⟨some 15, none, .mv (.t 40)⟩] [1, 2, 3, 4, 5, 6, 7, 15]) (.seq (.seq (.reg none [⟨some 41, none, .mv (.t 15)⟩,⟨some 42, none, .bin .lss .i (.t 41) (.k (V.i 0))⟩] [1, 2, 3, 4, 5, 6, 7, 42]) (.cond (.t 42) (.seq (.reg none [⟨some 14, none, .mv (.k (V.b true))⟩] [14]) (.ret)) (.skip))) (.seq (.reg none [⟨some 43, none, .ld true 3 (.t 7)⟩,⟨some 44, none, .call 9 false [(.t 43)]⟩,⟨some 45, none, .mv (.t 1)⟩,⟨some 46, none, .call 16 false [(.t 45)]⟩,⟨some 47, none, .mv (.t 2)⟩,⟨some 48, none, .call 17 false [(.t 47)]⟩,⟨some 49, none, .mv (.t 3)⟩,⟨some 50, none, .mv (.t 4)⟩,⟨some 51, none, .mv (.t 5)⟩,⟨some 52, none, .mv (.t 6)⟩,⟨some 53, none, .call 15 false [(.t 44), (.t 46), (.t 48), (.t 49), (.t 50), (.t 51), (.t 52)]⟩,⟨some 16, none, .mv (.t 53)⟩] [1, 2, 3, 4, 5, 6, 7, 16]) (.seq (.reg none [⟨some 54, none, .ld true 3 (.t 7)⟩,⟨some 55, none, .call 9 true [(.t 54)]⟩,⟨some 17, none, .alloc [.n 6, .n 1, .r (.v (.int .i64 0))]⟩,⟨none, none, .st 3 (.t 17) (.t 55)⟩] [1, 2, 3, 4, 5, 6, 7, 16, 17]) (.seq (.reg none [⟨some 56, none, .mv (.t 1)⟩,⟨some 57, none, .call 16 true [(.t 56)]⟩,⟨some 18, none, .mv (.t 57)⟩] [1, 2, 3, 4, 5, 6, 7, 16, 17, 18]) (.seq (.reg none [⟨some 58, none, .mv (.t 2)⟩,⟨some 59, none, .call 17 true [(.t 58)]⟩,⟨some 19, none, .mv (.t 59)⟩] [1, 2, 3, 4, 5, 6, 7, 16, 17, 18, 19]) (.seq (.reg none [⟨some 60, none, .ld true 3 (.t 17)⟩,⟨some 61, none, .mv (.t 18)⟩,⟨some 62, none, .mv (.t 19)⟩,⟨some 63, none, .mv (.t 3)⟩,⟨some 64, none, .mv (.t 4)⟩,⟨some 65, none, .mv (.t 5)⟩,⟨some 66, none, .mv (.t 6)⟩,⟨some 67, none, .call 18 true [(.t
 60), (.t 61), (.t 62), (.t 63), (.t 64), (.t 65), (.t 66)]⟩,⟨some 20, none, .mv (.t 67)⟩] [1, 2, 3, 4, 5, 6, 7, 16, 17, 18, 19, 20]) (.seq (.seq (.reg none [⟨some 68, none, .mv (.t 20)⟩,⟨some 69, none, .mv (.t 16)⟩,⟨some 70, none, .call 19 true [(.t 68), (.t 69)]⟩,⟨some 71, none, .not (.t 70)⟩] [1, 2, 3, 4, 5, 6, 7, 16, 17, 18, 19, 20, 71]) (.cond (.t 71) (.seq (.reg none [⟨some 14, none, .mv (.k (V.b false))⟩] [14]) (.ret)) (.skip))) (.seq (.seq (.reg (some [[], [], [1], [0, 1, 2], [0, 1, 2, 3]]) [⟨some 72, none, .ld true 3 (.t 17)⟩,⟨some 73, none, .ld true 3 (.t 7)⟩,⟨some 74, none, .call 9 false [(.t 73)]⟩,⟨some 75, none, .call 12 true [(.t 72), (.t 74)]⟩,⟨some 76, none, .not (.t 75)⟩] [1, 2, 3, 4, 5, 6, 7, 16, 17, 18, 19, 20, 76]) (.cond (.t 76) (.seq (.reg none [⟨some 14, none, .mv (.k (V.b false))⟩] [14]) (.ret)) (.skip))) (.seq (.seq (.reg none [⟨some 77, none, .mv (.t 18)⟩,⟨some 78, none, .mv (.t 1)⟩,⟨some 79, none, .call 16 false [(.t 78)]⟩,⟨some 80, none, .call 20 true [(.t 77), (.t 79)]⟩,⟨some 81, none, .not (.t 80)⟩] [1, 2, 3, 4, 5, 6, 7, 16, 17, 18, 19, 20, 81]) (.cond (.t 81) (.seq (.reg none [⟨some 14, none, .mv (.k (V.b false))⟩] [14]) (.ret)) (.skip))) (.seq (.seq (.reg none [⟨some 82, none, .mv (.t 19)⟩,⟨some 83, none, .mv (.t 2)⟩,⟨some 84, none, .call 17 false [(.t 83)]⟩,⟨some 85, none, .call 21 true [(.t 82), (.t 84)]⟩,⟨some 86, none, .not (.t 85)⟩] [1, 2, 3, 4, 5, 6, 7, 16, 17, 18, 19, 20, 86]) (.cond (.t 86) (.seq (.reg none [⟨some 14, none, .mv (.k (V.b false))⟩] [14]) (.ret)) (.skip))) (.seq (.reg none [⟨some 21, none, .mv (.k (V.i 1))⟩] [1, 2, 3, 4, 5, 6, 7, 16, 17, 18, 19, 20, 21]) (.seq (.reg none [⟨some 87, none, .ld true 3 (.t 17)⟩,⟨some 88, none, .mv (.t 21)⟩,⟨some 89, none, .callm 22 (.t 87) [(.t 88)]⟩,⟨some 21, none, .mv (.t 89)⟩] [1, 2, 3, 4, 5, 6, 7, 16, 18, 19, 20, 21]) (.seq (.reg none [⟨some 90, none, .mv (.t 18)⟩,⟨some 91, none, .mv (.t 21)⟩,⟨some 92, none, .callm 23 (.t 90) [(.t 91)]⟩,⟨some 21, none, .mv (.t 92)⟩] [1, 2, 3, 4, 5, 6, 7, 16, 19, 20, 21]) (.seq (.reg none [⟨some 93, none, .mv (.t 19)⟩,⟨some 94, none, .mv (.t 21)⟩,⟨some 95, none, .callm 24 (.t 93) [(.t 94)]⟩,⟨some 21, none, .mv (.t 95)⟩] [1, 2, 3, 4, 5, 6, 7, 16, 20, 21]) (.seq (.seq (.reg none [⟨some 96, none, .mv (.t 21)⟩,⟨some 97, none, .bin .lss .i (.t 96) (.k (V.i 0))⟩,⟨some 98, none, .mv (.t 97)⟩,⟨some 99, (some (98, false)), .mv (.t 20)⟩,⟨some 100, (some (98, false)), .mv (.t 16)⟩,⟨some 101, (some (98, false)), .call 19 true [(.t 99), (.t 100)]⟩,⟨some 102, (some (98, false)), .not (.t 101)⟩,⟨some 103, none, .pick (.t 98) (.k (V.b true)) (.t 102)⟩] [1, 2, 3, 4, 5, 6, 7, 16, 20, 103]) (.cond (.t 103) (.seq (.reg none [⟨some 14, none, .mv (.k (V.b false))⟩] [14]) (.ret)) (.skip))) (.seq (.reg none [⟨some 22, none, .mv (.k (V.i 1))⟩] [1, 2, 3, 4, 5, 6, 7, 16, 20, 22]) (.seq (.reg none [⟨some 104, none, .mv (.t 20)⟩,⟨some 105, none, .mv (.t 22)⟩,⟨some 106, none, .callm 25 (.t 104) [(.t 105)]⟩,⟨some 22, none, .mv (.t 106)⟩] [1, 2, 3, 4, 5, 6, 7,
 16, 20, 22]) (.seq (.reg none [⟨some 23, none, .mv (.k (V.i 1))⟩] [1, 2, 3, 4, 5, 6, 7, 16, 20, 22, 23]) (.seq (.reg none [⟨some 107, none, .mv (.t 20)⟩,⟨some 108, none, .mv (.t 23)⟩,⟨some 109, none, .call 26 true [(.t 107), (.t 108)]⟩,⟨some 23, none, .mv (.t 109)⟩] [1, 2, 3, 4, 5, 6, 7, 16, 20, 22, 23]) (.seq (.seq (.reg none [⟨some 110, none, .mv (.t 23)⟩,⟨some 111, none, .bin .lss .i (.t 110) (.k (V.i 0))⟩] [1, 2, 3, 4, 5, 6, 7, 16, 20, 22, 23, 111]) (.cond (.t 111) (.seq (.reg none [⟨some 14, none, .mv (.k (V.b false))⟩] [14]) (.ret)) (.skip))) (.seq (.seq (.reg none [⟨some 112, none, .mv (.t 23)⟩,⟨some 113, none, .mv (.t 22)⟩,⟨some 114, none, .bin .neq .i (.t 112) (.t 113)⟩] [1, 2, 3, 4, 5, 6, 7, 16, 20, 22, 114]) (.cond (.t 114) (.seq (.reg none [⟨some 14, none, .mv (.k (V.b false))⟩] [14]) (.ret)) (.skip))) (.seq (.reg none [⟨some 115, none, .ld true 3 (.t 7)⟩,⟨some 116, none, .call 9 false [(.t 115)]⟩,⟨some 117, none, .mv (.t 1)⟩,⟨some 118, none, .call 16 false [(.t 117)]⟩,⟨some 119, none, .mv (.t 2)⟩,⟨some 120, none, .call 17 false [(.t 119)]⟩,⟨some 121, none, .mv (.t 3)⟩,⟨some 122, none, .mv (.t 4)⟩,⟨some 123, none, .mv (.t 5)⟩,⟨some 124, none, .mv (.t 6)⟩,⟨some 125, none, .call 18 false [(.t 116), (.t 118), (.t 120), (.t 121), (.t 122), (.t 123), (.t 124)]⟩,⟨some 24, none, .mv (.t 125)⟩] [16, 20, 22, 24]) (.seq (.seq (.reg none [⟨some 126, none, .mv (.t 24)⟩,⟨some 127, none, .mv (.t 16)⟩,⟨some 128, none, .call 19 true [(.t 126), (.t 127)]⟩,⟨some 129, none, .not (.t 128)⟩] [20, 22, 129]) (.cond (.t 129) (.seq (.reg none [⟨some 14, none, .mv (.k (V.b false))⟩] [14]) (.ret)) (.skip))) (.seq (.reg none [⟨some 23, none, .mv (.k (V.i 1))⟩] [20, 22, 23]) (.seq (.reg none [⟨some 130, none, .mv (.t 20)⟩,⟨some 131, none, .mv (.t 23)⟩,⟨some 132, none, .call 26 true [(.t 130), (.t 131)]⟩,⟨some 23, none, .mv (.t 132)⟩] [22, 23]) (.seq (.seq (.reg none [⟨some 133, none, .mv (.t 23)⟩,⟨some 134, none, .bin .lss .i (.t 133) (.k (V.i 0))⟩] [22, 23, 134]) (.cond (.t 134) (.seq (.reg none [⟨some 14, none, .mv (.k (V.b false))⟩] [14]) (.ret)) (.skip))) (.seq (.seq (.reg none [⟨some 135, none, .mv (.t 23)⟩,⟨some 136, none, .mv (.t 22)⟩,⟨some 137, none, .bin .neq .i (.t 135) (.t 136)⟩] [137]) (.cond (.t 137) (.seq (.reg none [⟨some 14, none, .mv (.k (V.b false))⟩] [14]) (.ret)) (.skip))) (.seq (.reg none [⟨some 14, none, .mv (.k (V.b true))⟩] [14]) (.ret))))))))))))))))))))))))))))))))))))
def rv4 : List RV := [.t 14]
open Go.Proofs Go.IntWalk
set_option linter.unusedVariables false
set_option maxHeartbeats 4000000
def L_FnExactBestFree (g : G) (t : TE) (a0 : Network) (a1 : List Booking) (a2 : List Trip) (a3 : ByteArray) (a4 : Int) (a5 : Int) (a6 : Int) : Option Bool :=
  br (g.lt 1048576 (g.int (g.slen a3)))
  (
   some true)
  (
   lP (L_szNetwork g t a0 1048576) fun x1 =>
   br (g.lt x1 0)
   (
    some true)
   (
    lP (L_szBookingS g t a1 x1) fun x2 =>
    br (g.lt x2 0)
    (
     some true)
    (
     lP (L_szTripS g t a2 x2) fun x3 =>
     br (g.lt x3 0)
     (
      some true)
     (
      cl (L_toNetwork g t a0) fun x4 =>
      cl (L_toBookingS g t a1) fun x5 =>
      cl (L_toTripS g t a2) fun x6 =>
      cl (S_BestFree g t x4 x5 x6 a3 a4 a5 a6) fun x7 =>
      cl (L_toNetwork g t a0) fun x8 =>
      cl (L_toBookingS g t a1) fun x9 =>
      cl (L_toTripS g t a2) fun x10 =>
      cl (I_BestFree g t x8 x9 x10 a3 a4 a5 a6) fun x11 =>
      cl (L_eqIntS g t x11 x7) fun x12 =>
      br x12
      (
       cl (L_toNetwork g t a0) fun x13 =>
       cl (L_eqNetwork g t x8 x13) fun x14 =>
       br x14
       (
        cl (L_toBookingS g t a1) fun x15 =>
        cl (L_eqBookingS g t x9 x15) fun x16 =>
        br x16
        (
         cl (L_toTripS g t a2) fun x17 =>
         cl (L_eqTripS g t x10 x17) fun x18 =>
         br x18
         (
          cl (L_markNetwork g t x8 1) fun x19 =>
          gd ((x19.2.Legs.length = x8.Legs.length)) <|
          gd ((x19.2.Off.length = x8.Off.length)) <|
          cl (L_markBookingS g t x9 x19.1) fun x20 =>
          gd ((x20.2.length = x9.length)) <|
          cl (L_markTripS g t x10 x20.1) fun x21 =>
          gd ((x21.2.length = x10.length)) <|
          br (g.lt x21.1 0)
          (
           some false)
          (
           cl (L_eqIntS g t x11 x7) fun x22 =>
           br x22
           (
            cl (L_markIntS g t x11 1) fun x23 =>
            gd ((x23.2.length = x11.length)) <|
            lP (L_heldIntS g t x23.2 1) fun x24 =>
            br (g.lt x24 0)
            (
             some false)
            (
             br (g.eq x24 x23.1)
             (
              cl (L_toNetwork g t a0) fun x25 =>
              cl (L_toBookingS g t a1) fun x26 =>
              cl (L_toTripS g t a2) fun x27 =>
              cl (I_BestFree g t x25 x26 x27 a3 a4 a5 a6) fun x28 =>
              cl (L_eqIntS g t x28 x7) fun x29 =>
              br x29
              (
               lP (L_heldIntS g t x23.2 1) fun x30 =>
               br (g.lt x30 0)
               (
                some false)
               (
                br (g.eq x30 x23.1)
                (
                 some true)
                (
                 some false)))
              (
               some false))
             (
              some false)))
           (
            some false)))
         (
          some false))
        (
         some false))
       (
        some false))
      (
       some false)))))
theorem c_L_FnExactBestFree {g : G} {t : TE} {a0 : Network} {a1 : List Booking} {a2 : List Trip} {a3 : ByteArray} {a4 : Int} {a5 : Int} {a6 : Int} {r : Bool} (hg : g = G.real) (ht : t = TE.real) (h : L_FnExactBestFree g t a0 a1 a2 a3 a4 a5 a6 = some r) : Fn Try.prog 4 [.g (Network.rs t a0), .c (.s 4 (t.r_Booking a1)), .c (.s 2 (t.r_Trip a2)), .c (.v (.string a3)), .c (.v (.int .i64 a4)), .c (.v (.int .i64 a5)), .c (.v (.int .i64 a6))] (.c (.r (.v (.bool r)))) := by
 obtain ⟨X, hX⟩ := hide (.c (.r (.v (.bool r))) : X); rw [← hX]; refine fn_of (rvs := rv4) (j := ir4) Try.func4 rfl (by kernel_rfl) (Nat.le_of_ble_eq_true rfl) (by kernel_rfl) prog_mixed ?_; intro g2 F hg2 hF; obtain rfl : g2 = g := hg2.unique.trans hg.symm; clear hg2; obtain ⟨_, lt, _, eq, _, _, _, _, _, _, _, _, int, _, _, _, _, _, _, _, _, _, _, _, dlen, _, _, _, rd, rda, _, _, _, _, _, slen, _, _, _, _, _, _, _, _⟩ := g2; obtain ⟨r_Leg, d_Leg, r_I64, d_I64, r_Booking, d_Booking, r_Trip, d_Trip, _, _, _, _, _, _, _⟩ := t
 obtain ⟨a0_Legs, a0_Off, a0_Change⟩ := a0; have hrda_Leg : ∀ l, rda (d_Leg l) = r_Leg l := rda_Leg hg ht; have hfr_I64 : ∀ l, freshDss (d_I64 l) = true := fresh_I64 ht; have hrda_I64 : ∀ l, rda (d_I64 l) = r_I64 l := rda_I64 hg ht; have hrda_Booking : ∀ l, rda (d_Booking l) = r_Booking l := rda_Booking hg ht; have hrda_Trip : ∀ l, rda (d_Trip l) = r_Trip l := rda_Trip hg ht; unfold L_FnExactBestFree at h; try dsimp only at h
 cbv
 cases hb1 : (lt 1048576 (int (slen a3)))
 rotate_left
 ·rw [br_true hb1] at h; cbv; obtain rfl := Option.some.inj h; exact ARet.mk trivial hX.symm
 rw [br_false hb1] at h; cbv; obtain ⟨x1, hx1, h⟩ := of_lP h; try dsimp only at h
 refine ACall.mk _ _ rfl (hF _ _ _ (c_L_szNetwork hg ht hx1)) (.inl rfl) (Nat.le_of_ble_eq_true rfl) ?_; cbv
 cases hb2 : (lt x1 0)
 rotate_left
 ·rw [br_true hb2] at h; cbv; obtain rfl := Option.some.inj h; exact ARet.mk trivial hX.symm
 rw [br_false hb2] at h; cbv; obtain ⟨x2, hx2, h⟩ := of_lP h; try dsimp only at h
 refine ACall.mk _ _ rfl (hF _ _ _ (c_L_szBookingS hg ht hx2)) (.inl rfl) (Nat.le_of_ble_eq_true rfl) ?_; cbv
 cases hb3 : (lt x2 0)
 rotate_left
 ·rw [br_true hb3] at h; cbv; obtain rfl := Option.some.inj h; exact ARet.mk trivial hX.symm
 rw [br_false hb3] at h; cbv; obtain ⟨x3, hx3, h⟩ := of_lP h; try dsimp only at h
 refine ACall.mk _ _ rfl (hF _ _ _ (c_L_szTripS hg ht hx3)) (.inl rfl) (Nat.le_of_ble_eq_true rfl) ?_; cbv
 cases hb4 : (lt x3 0)
 rotate_left
 ·rw [br_true hb4] at h; cbv; obtain rfl := Option.some.inj h; exact ARet.mk trivial hX.symm
 rw [br_false hb4] at h; cbv; obtain ⟨x4, hx4, h⟩ := of_cl h; obtain ⟨x4_Legs, x4_Off, x4_Change⟩ := x4; try dsimp only at h
 refine ACallR.mk _ _ (.g [.r (.s 6 (r_Leg x4_Legs)), .r (.s 1 (r_I64 x4_Off)), .r (.v (.int .i64 x4_Change))]) rfl (hF _ _ _ (c_L_toNetwork hg ht hx4)) (.inl rfl) (Nat.le_of_ble_eq_true rfl) (by cbv; (try simp only [hrda_I64, hrda_Leg])) ?_; cbv; obtain ⟨x5, hx5, h⟩ := of_cl h; try dsimp only at h
 refine ACallR.mk _ _ (.c (.r (.s 4 (r_Booking x5)))) rfl (hF _ _ _ (c_L_toBookingS hg ht hx5)) (.inl rfl) (Nat.le_of_ble_eq_true rfl) (by cbv; (try simp only [hrda_Booking])) ?_; cbv; obtain ⟨x6, hx6, h⟩ := of_cl h; try dsimp only at h
 refine ACallR.mk _ _ (.c (.r (.s 2 (r_Trip x6)))) rfl (hF _ _ _ (c_L_toTripS hg ht hx6)) (.inl rfl) (Nat.le_of_ble_eq_true rfl) (by cbv; (try simp only [hrda_Trip])) ?_; cbv; obtain ⟨x7, hx7, h⟩ := of_cl h; try dsimp only at h
 refine ACallR.mk _ _ (.c (.r (.s 1 (r_I64 x7)))) rfl (hF _ _ _ (c_S_BestFree hg ht hx7)) (.inl rfl) (Nat.le_of_ble_eq_true rfl) (by cbv; (try simp only [hrda_I64])) ?_; cbv; obtain ⟨x8, hx8, h⟩ := of_cl h; obtain ⟨x8_Legs, x8_Off, x8_Change⟩ := x8; try dsimp only at h
 refine ACall.mk _ _ rfl (hF _ _ _ (c_L_toNetwork hg ht hx8)) (.inl rfl) (Nat.le_of_ble_eq_true rfl) ?_; cbv; obtain ⟨x9, hx9, h⟩ := of_cl h; try dsimp only at h
 refine ACall.mk _ _ rfl (hF _ _ _ (c_L_toBookingS hg ht hx9)) (.inl rfl) (Nat.le_of_ble_eq_true rfl) ?_; cbv; obtain ⟨x10, hx10, h⟩ := of_cl h; try dsimp only at h
 refine ACall.mk _ _ rfl (hF _ _ _ (c_L_toTripS hg ht hx10)) (.inl rfl) (Nat.le_of_ble_eq_true rfl) ?_; cbv; refine AStep.mk ⟨⟨(lend_Leg ht (dlen_Leg hg ht _)), (lend_I64 ht (dlen_I64 hg ht _))⟩, ⟨(lend_Booking ht (dlen_Booking hg ht _)), (lend_Trip ht (dlen_Trip hg ht _))⟩⟩ ?_; cbv; obtain ⟨x11, hx11, h⟩ := of_cl h; try dsimp only at h
 refine ACall.mk _ _ (by rw [show rd (d_Leg x8_Legs) 0 (dlen (d_Leg x8_Legs)) = r_Leg x8_Legs from rdw_Leg hg ht (dlen_Leg hg ht _), show rd (d_I64 x8_Off) 0 (dlen (d_I64 x8_Off)) = r_I64 x8_Off from rdw_I64 hg ht (dlen_I64 hg ht _), show rd (d_Booking x9) 0 (dlen (d_Booking x9)) = r_Booking x9 from rdw_Booking hg ht (dlen_Booking hg ht _), show rd (d_Trip x10) 0 (dlen (d_Trip x10)) = r_Trip x10 from rdw_Trip hg ht (dlen_Trip hg ht _)]; try rfl) (hF _ _ _ (c_I_BestFree hg ht hx11)) (.inr (by simp only [Go.Vs.X.fresh, Go.Vs.X.freshs, freshD, freshDs, Bool.and_self, hfr_I64])) (Nat.le_of_ble_eq_true rfl) ?_
 cbv; refine AStep.mk (lend_I64 ht (dlen_I64 hg ht _)) ?_; cbv; obtain ⟨x12, hx12, h⟩ := of_cl h; try dsimp only at h
 refine ACall.mk _ _ (by rw [show rd (d_I64 x11) 0 (dlen (d_I64 x11)) = r_I64 x11 from rdw_I64 hg ht (dlen_I64 hg ht _)]; try rfl) (hF _ _ _ (c_L_eqIntS hg ht hx12)) (.inr rfl) (Nat.le_of_ble_eq_true rfl) ?_
 cbv
 cases hb5 : x12
 ·rw [br_false hb5] at h; cbv; obtain rfl := Option.some.inj h; exact ARet.mk trivial hX.symm
 rw [br_true hb5] at h; cbv; obtain ⟨x13, hx13, h⟩ := of_cl h; obtain ⟨x13_Legs, x13_Off, x13_Change⟩ := x13; try dsimp only at h
 refine ACallR.mk _ _ (.g [.r (.s 6 (r_Leg x13_Legs)), .r (.s 1 (r_I64 x13_Off)), .r (.v (.int .i64 x13_Change))]) rfl (hF _ _ _ (c_L_toNetwork hg ht hx13)) (.inl rfl) (Nat.le_of_ble_eq_true rfl) (by cbv; (try simp only [hrda_I64, hrda_Leg])) ?_; cbv; refine AStep.mk ⟨(lend_Leg ht (dlen_Leg hg ht _)), (lend_I64 ht (dlen_I64 hg ht _))⟩ ?_; cbv; obtain ⟨x14, hx14, h⟩ := of_cl h; try dsimp only at h
 refine ACall.mk _ _ (by rw [show rd (d_Leg x8_Legs) 0 (dlen (d_Leg x8_Legs)) = r_Leg x8_Legs from rdw_Leg hg ht (dlen_Leg hg ht _), show rd (d_I64 x8_Off) 0 (dlen (d_I64 x8_Off)) = r_I64 x8_Off from rdw_I64 hg ht (dlen_I64 hg ht _)]; try rfl) (hF _ _ _ (c_L_eqNetwork hg ht hx14)) (.inr rfl) (Nat.le_of_ble_eq_true rfl) ?_
 cbv
 cases hb6 : x14
 ·rw [br_false hb6] at h; cbv; obtain rfl := Option.some.inj h; exact ARet.mk trivial hX.symm
 rw [br_true hb6] at h; cbv; obtain ⟨x15, hx15, h⟩ := of_cl h; try dsimp only at h
 refine ACallR.mk _ _ (.c (.r (.s 4 (r_Booking x15)))) rfl (hF _ _ _ (c_L_toBookingS hg ht hx15)) (.inl rfl) (Nat.le_of_ble_eq_true rfl) (by cbv; (try simp only [hrda_Booking])) ?_; cbv; refine AStep.mk (lend_Booking ht (dlen_Booking hg ht _)) ?_; cbv; obtain ⟨x16, hx16, h⟩ := of_cl h; try dsimp only at h
 refine ACall.mk _ _ (by rw [show rd (d_Booking x9) 0 (dlen (d_Booking x9)) = r_Booking x9 from rdw_Booking hg ht (dlen_Booking hg ht _)]; try rfl) (hF _ _ _ (c_L_eqBookingS hg ht hx16)) (.inr rfl) (Nat.le_of_ble_eq_true rfl) ?_
 cbv
 cases hb7 : x16
 ·rw [br_false hb7] at h; cbv; obtain rfl := Option.some.inj h; exact ARet.mk trivial hX.symm
 rw [br_true hb7] at h; cbv; obtain ⟨x17, hx17, h⟩ := of_cl h; try dsimp only at h
 refine ACallR.mk _ _ (.c (.r (.s 2 (r_Trip x17)))) rfl (hF _ _ _ (c_L_toTripS hg ht hx17)) (.inl rfl) (Nat.le_of_ble_eq_true rfl) (by cbv; (try simp only [hrda_Trip])) ?_; cbv; refine AStep.mk (lend_Trip ht (dlen_Trip hg ht _)) ?_; cbv; obtain ⟨x18, hx18, h⟩ := of_cl h; try dsimp only at h
 refine ACall.mk _ _ (by rw [show rd (d_Trip x10) 0 (dlen (d_Trip x10)) = r_Trip x10 from rdw_Trip hg ht (dlen_Trip hg ht _)]; try rfl) (hF _ _ _ (c_L_eqTripS hg ht hx18)) (.inr rfl) (Nat.le_of_ble_eq_true rfl) ?_
 cbv
 cases hb8 : x18
 ·rw [br_false hb8] at h; cbv; obtain rfl := Option.some.inj h; exact ARet.mk trivial hX.symm
 rw [br_true hb8] at h; cbv; refine AStep.mk ⟨⟨rfl, (dlen_Leg hg ht _)⟩, ⟨rfl, (dlen_I64 hg ht _)⟩⟩ ?_; cbv; obtain ⟨x19, hx19, h⟩ := of_cl h; obtain ⟨x19_1, ⟨x19_2_Legs, x19_2_Off, x19_2_Change⟩⟩ := x19; try dsimp only at h
 refine ACallM.mk _ _ _ _ rfl rfl (hF _ _ _ (c_L_markNetwork hg ht hx19)) rfl (Nat.le_of_ble_eq_true rfl) (Nat.le_of_ble_eq_true rfl) ?_; cbv; obtain ⟨hc1, h⟩ := of_gd h; obtain ⟨hc2, h⟩ := of_gd h; refine AStep.mk ⟨rfl, (dlen_Booking hg ht _)⟩ ?_; cbv; obtain ⟨x20, hx20, h⟩ := of_cl h; obtain ⟨x20_1, x20_2⟩ := x20; try dsimp only at h
 refine ACallM.mk _ _ _ _ rfl rfl (hF _ _ _ (c_L_markBookingS hg ht hx20)) rfl (Nat.le_of_ble_eq_true rfl) (Nat.le_of_ble_eq_true rfl) ?_; cbv; obtain ⟨hc3, h⟩ := of_gd h; refine AStep.mk ⟨rfl, (dlen_Trip hg ht _)⟩ ?_; cbv; obtain ⟨x21, hx21, h⟩ := of_cl h; obtain ⟨x21_1, x21_2⟩ := x21; try dsimp only at h
 refine ACallM.mk _ _ _ _ rfl rfl (hF _ _ _ (c_L_markTripS hg ht hx21)) rfl (Nat.le_of_ble_eq_true rfl) (Nat.le_of_ble_eq_true rfl) ?_; cbv; obtain ⟨hc4, h⟩ := of_gd h
 cases hb9 : (lt x21_1 0)
 rotate_left
 ·rw [br_true hb9] at h; cbv; iterate 4 try (rw [hb9]; cbv)
  obtain rfl := Option.some.inj h; exact ARet.mk trivial hX.symm
 rw [br_false hb9] at h; cbv; iterate 2 try (rw [hb9]; cbv)
 refine AStep.mk (lend_I64 ht (dlen_I64 hg ht _)) ?_; cbv; obtain ⟨x22, hx22, h⟩ := of_cl h; try dsimp only at h
 refine ACall.mk _ _ (by rw [show rd (d_I64 x11) 0 (dlen (d_I64 x11)) = r_I64 x11 from rdw_I64 hg ht (dlen_I64 hg ht _)]; try rfl) (hF _ _ _ (c_L_eqIntS hg ht hx22)) (.inr rfl) (Nat.le_of_ble_eq_true rfl) ?_
 cbv; iterate 2 try (rw [hb9]; cbv)
 cases hb10 : x22
 ·rw [br_false hb10] at h; cbv; obtain rfl := Option.some.inj h; exact ARet.mk trivial hX.symm
 rw [br_true hb10] at h; cbv; refine AStep.mk ⟨rfl, (dlen_I64 hg ht _)⟩ ?_; cbv; obtain ⟨x23, hx23, h⟩ := of_cl h; obtain ⟨x23_1, x23_2⟩ := x23; try dsimp only at h
 refine ACallM.mk _ _ _ _ rfl rfl (hF _ _ _ (c_L_markIntS hg ht hx23)) rfl (Nat.le_of_ble_eq_true rfl) (Nat.le_of_ble_eq_true rfl) ?_; cbv; obtain ⟨hc5, h⟩ := of_gd h; refine AStep.mk (lend_I64 ht (lenp_I64 ht (dlen_I64 hg ht _) hc5)) ?_; cbv; obtain ⟨x24, hx24, h⟩ := of_lP h; try dsimp only at h
 refine ACall.mk _ _ (by rw [show rd (d_I64 x23_2) 0 (dlen (d_I64 x11)) = r_I64 x23_2 from rdw_I64 hg ht (lenp_I64 ht (dlen_I64 hg ht _) hc5)]; try rfl) (hF _ _ _ (c_L_heldIntS hg ht hx24)) (.inr rfl) (Nat.le_of_ble_eq_true rfl) ?_
 cbv
 cases hb11 : (lt x24 0)
 rotate_left
 ·rw [br_true hb11] at h; cbv; obtain rfl := Option.some.inj h; exact ARet.mk trivial hX.symm
 rw [br_false hb11] at h; cbv
 cases hb12 : (eq x24 x23_1)
 ·rw [br_false hb12] at h; cbv; obtain rfl := Option.some.inj h; exact ARet.mk trivial hX.symm
 rw [br_true hb12] at h; cbv; obtain ⟨x25, hx25, h⟩ := of_cl h; obtain ⟨x25_Legs, x25_Off, x25_Change⟩ := x25; try dsimp only at h
 refine ACallR.mk _ _ (.g [.r (.s 6 (r_Leg x25_Legs)), .r (.s 1 (r_I64 x25_Off)), .r (.v (.int .i64 x25_Change))]) rfl (hF _ _ _ (c_L_toNetwork hg ht hx25)) (.inl rfl) (Nat.le_of_ble_eq_true rfl) (by cbv; (try simp only [hrda_I64, hrda_Leg])) ?_; cbv; obtain ⟨x26, hx26, h⟩ := of_cl h; try dsimp only at h
 refine ACallR.mk _ _ (.c (.r (.s 4 (r_Booking x26)))) rfl (hF _ _ _ (c_L_toBookingS hg ht hx26)) (.inl rfl) (Nat.le_of_ble_eq_true rfl) (by cbv; (try simp only [hrda_Booking])) ?_; cbv; obtain ⟨x27, hx27, h⟩ := of_cl h; try dsimp only at h
 refine ACallR.mk _ _ (.c (.r (.s 2 (r_Trip x27)))) rfl (hF _ _ _ (c_L_toTripS hg ht hx27)) (.inl rfl) (Nat.le_of_ble_eq_true rfl) (by cbv; (try simp only [hrda_Trip])) ?_; cbv; obtain ⟨x28, hx28, h⟩ := of_cl h; try dsimp only at h
 refine ACallR.mk _ _ (.c (.r (.s 1 (r_I64 x28)))) rfl (hF _ _ _ (c_I_BestFree hg ht hx28)) (.inl rfl) (Nat.le_of_ble_eq_true rfl) (by cbv; (try simp only [hrda_I64])) ?_; cbv; obtain ⟨x29, hx29, h⟩ := of_cl h; try dsimp only at h
 refine ACall.mk _ _ rfl (hF _ _ _ (c_L_eqIntS hg ht hx29)) (.inl rfl) (Nat.le_of_ble_eq_true rfl) ?_; cbv
 cases hb13 : x29
 ·rw [br_false hb13] at h; cbv; obtain rfl := Option.some.inj h; exact ARet.mk trivial hX.symm
 rw [br_true hb13] at h; cbv; refine AStep.mk (lend_I64 ht (lenp_I64 ht (dlen_I64 hg ht _) hc5)) ?_; cbv; obtain ⟨x30, hx30, h⟩ := of_lP h; try dsimp only at h
 refine ACall.mk _ _ (by rw [show rd (d_I64 x23_2) 0 (dlen (d_I64 x11)) = r_I64 x23_2 from rdw_I64 hg ht (lenp_I64 ht (dlen_I64 hg ht _) hc5)]; try rfl) (hF _ _ _ (c_L_heldIntS hg ht hx30)) (.inr rfl) (Nat.le_of_ble_eq_true rfl) ?_
 cbv
 cases hb14 : (lt x30 0)
 rotate_left
 ·rw [br_true hb14] at h; cbv; obtain rfl := Option.some.inj h; exact ARet.mk trivial hX.symm
 rw [br_false hb14] at h; cbv
 cases hb15 : (eq x30 x23_1)
 rotate_left
 ·rw [br_true hb15] at h; cbv; obtain rfl := Option.some.inj h; exact ARet.mk trivial hX.symm
 rw [br_false hb15] at h; cbv; obtain rfl := Option.some.inj h; exact ARet.mk trivial hX.symm
end Go.Vs
