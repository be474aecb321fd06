/-
  MESSAGES: the fields of each kind, laid or read; all (printed by wip/gen-msgk.py).
-/
import Derived.Test.YtikimmhkfjaijaaMsJ
namespace Go.Proofs.Ytikimmhkfjaijaa
open Go.RowKit Reg Go.ChangeShapes

def p_K (m : Ms) (v : Int) : Ms := { m with K := v }
theorem p_K_K (m : Ms) (v : Int) : (p_K m v).K = v := rfl
theorem p_K_T (m : Ms) (v : Int) : (p_K m v).T = m.T := rfl
theorem p_K_P (m : Ms) (v : Int) : (p_K m v).P = m.P := rfl
theorem p_K_PT (m : Ms) (v : Int) : (p_K m v).PT = m.PT := rfl
theorem p_K_es (m : Ms) (v : Int) : (p_K m v).es = m.es := rfl
theorem p_K_C (m : Ms) (v : Int) : (p_K m v).C = m.C := rfl
theorem p_K_Y (m : Ms) (v : Int) : (p_K m v).Y = m.Y := rfl
theorem p_K_M (m : Ms) (v : Int) : (p_K m v).M = m.M := rfl
theorem p_K_S (m : Ms) (v : Int) : (p_K m v).S = m.S := rfl
theorem p_K_l (m : Ms) (v : Int) : (p_K m v).l = m.l := rfl
theorem p_K_n (m : Ms) (v : Int) : (p_K m v).n = m.n := rfl
theorem p_K_la (m : Ms) (v : Int) : (p_K m v).la = m.la := rfl
theorem p_K_ta (m : Ms) (v : Int) : (p_K m v).ta = m.ta := rfl
theorem p_K_N (m : Ms) (v : Int) : (p_K m v).N = m.N := rfl
theorem p_K_p (m : Ms) (v : Int) : (p_K m v).p = m.p := rfl
def p_T (m : Ms) (v : Int) : Ms := { m with T := v }
theorem p_T_K (m : Ms) (v : Int) : (p_T m v).K = m.K := rfl
theorem p_T_T (m : Ms) (v : Int) : (p_T m v).T = v := rfl
theorem p_T_P (m : Ms) (v : Int) : (p_T m v).P = m.P := rfl
theorem p_T_PT (m : Ms) (v : Int) : (p_T m v).PT = m.PT := rfl
theorem p_T_es (m : Ms) (v : Int) : (p_T m v).es = m.es := rfl
theorem p_T_C (m : Ms) (v : Int) : (p_T m v).C = m.C := rfl
theorem p_T_Y (m : Ms) (v : Int) : (p_T m v).Y = m.Y := rfl
theorem p_T_M (m : Ms) (v : Int) : (p_T m v).M = m.M := rfl
theorem p_T_S (m : Ms) (v : Int) : (p_T m v).S = m.S := rfl
theorem p_T_l (m : Ms) (v : Int) : (p_T m v).l = m.l := rfl
theorem p_T_n (m : Ms) (v : Int) : (p_T m v).n = m.n := rfl
theorem p_T_la (m : Ms) (v : Int) : (p_T m v).la = m.la := rfl
theorem p_T_ta (m : Ms) (v : Int) : (p_T m v).ta = m.ta := rfl
theorem p_T_N (m : Ms) (v : Int) : (p_T m v).N = m.N := rfl
theorem p_T_p (m : Ms) (v : Int) : (p_T m v).p = m.p := rfl
def p_P (m : Ms) (v : Int) : Ms := { m with P := v }
theorem p_P_K (m : Ms) (v : Int) : (p_P m v).K = m.K := rfl
theorem p_P_T (m : Ms) (v : Int) : (p_P m v).T = m.T := rfl
theorem p_P_P (m : Ms) (v : Int) : (p_P m v).P = v := rfl
theorem p_P_PT (m : Ms) (v : Int) : (p_P m v).PT = m.PT := rfl
theorem p_P_es (m : Ms) (v : Int) : (p_P m v).es = m.es := rfl
theorem p_P_C (m : Ms) (v : Int) : (p_P m v).C = m.C := rfl
theorem p_P_Y (m : Ms) (v : Int) : (p_P m v).Y = m.Y := rfl
theorem p_P_M (m : Ms) (v : Int) : (p_P m v).M = m.M := rfl
theorem p_P_S (m : Ms) (v : Int) : (p_P m v).S = m.S := rfl
theorem p_P_l (m : Ms) (v : Int) : (p_P m v).l = m.l := rfl
theorem p_P_n (m : Ms) (v : Int) : (p_P m v).n = m.n := rfl
theorem p_P_la (m : Ms) (v : Int) : (p_P m v).la = m.la := rfl
theorem p_P_ta (m : Ms) (v : Int) : (p_P m v).ta = m.ta := rfl
theorem p_P_N (m : Ms) (v : Int) : (p_P m v).N = m.N := rfl
theorem p_P_p (m : Ms) (v : Int) : (p_P m v).p = m.p := rfl
def p_PT (m : Ms) (v : Int) : Ms := { m with PT := v }
theorem p_PT_K (m : Ms) (v : Int) : (p_PT m v).K = m.K := rfl
theorem p_PT_T (m : Ms) (v : Int) : (p_PT m v).T = m.T := rfl
theorem p_PT_P (m : Ms) (v : Int) : (p_PT m v).P = m.P := rfl
theorem p_PT_PT (m : Ms) (v : Int) : (p_PT m v).PT = v := rfl
theorem p_PT_es (m : Ms) (v : Int) : (p_PT m v).es = m.es := rfl
theorem p_PT_C (m : Ms) (v : Int) : (p_PT m v).C = m.C := rfl
theorem p_PT_Y (m : Ms) (v : Int) : (p_PT m v).Y = m.Y := rfl
theorem p_PT_M (m : Ms) (v : Int) : (p_PT m v).M = m.M := rfl
theorem p_PT_S (m : Ms) (v : Int) : (p_PT m v).S = m.S := rfl
theorem p_PT_l (m : Ms) (v : Int) : (p_PT m v).l = m.l := rfl
theorem p_PT_n (m : Ms) (v : Int) : (p_PT m v).n = m.n := rfl
theorem p_PT_la (m : Ms) (v : Int) : (p_PT m v).la = m.la := rfl
theorem p_PT_ta (m : Ms) (v : Int) : (p_PT m v).ta = m.ta := rfl
theorem p_PT_N (m : Ms) (v : Int) : (p_PT m v).N = m.N := rfl
theorem p_PT_p (m : Ms) (v : Int) : (p_PT m v).p = m.p := rfl
def p_es (m : Ms) (v : List En) : Ms := { m with es := v }
theorem p_es_K (m : Ms) (v : List En) : (p_es m v).K = m.K := rfl
theorem p_es_T (m : Ms) (v : List En) : (p_es m v).T = m.T := rfl
theorem p_es_P (m : Ms) (v : List En) : (p_es m v).P = m.P := rfl
theorem p_es_PT (m : Ms) (v : List En) : (p_es m v).PT = m.PT := rfl
theorem p_es_es (m : Ms) (v : List En) : (p_es m v).es = v := rfl
theorem p_es_C (m : Ms) (v : List En) : (p_es m v).C = m.C := rfl
theorem p_es_Y (m : Ms) (v : List En) : (p_es m v).Y = m.Y := rfl
theorem p_es_M (m : Ms) (v : List En) : (p_es m v).M = m.M := rfl
theorem p_es_S (m : Ms) (v : List En) : (p_es m v).S = m.S := rfl
theorem p_es_l (m : Ms) (v : List En) : (p_es m v).l = m.l := rfl
theorem p_es_n (m : Ms) (v : List En) : (p_es m v).n = m.n := rfl
theorem p_es_la (m : Ms) (v : List En) : (p_es m v).la = m.la := rfl
theorem p_es_ta (m : Ms) (v : List En) : (p_es m v).ta = m.ta := rfl
theorem p_es_N (m : Ms) (v : List En) : (p_es m v).N = m.N := rfl
theorem p_es_p (m : Ms) (v : List En) : (p_es m v).p = m.p := rfl
def p_C (m : Ms) (v : Int) : Ms := { m with C := v }
theorem p_C_K (m : Ms) (v : Int) : (p_C m v).K = m.K := rfl
theorem p_C_T (m : Ms) (v : Int) : (p_C m v).T = m.T := rfl
theorem p_C_P (m : Ms) (v : Int) : (p_C m v).P = m.P := rfl
theorem p_C_PT (m : Ms) (v : Int) : (p_C m v).PT = m.PT := rfl
theorem p_C_es (m : Ms) (v : Int) : (p_C m v).es = m.es := rfl
theorem p_C_C (m : Ms) (v : Int) : (p_C m v).C = v := rfl
theorem p_C_Y (m : Ms) (v : Int) : (p_C m v).Y = m.Y := rfl
theorem p_C_M (m : Ms) (v : Int) : (p_C m v).M = m.M := rfl
theorem p_C_S (m : Ms) (v : Int) : (p_C m v).S = m.S := rfl
theorem p_C_l (m : Ms) (v : Int) : (p_C m v).l = m.l := rfl
theorem p_C_n (m : Ms) (v : Int) : (p_C m v).n = m.n := rfl
theorem p_C_la (m : Ms) (v : Int) : (p_C m v).la = m.la := rfl
theorem p_C_ta (m : Ms) (v : Int) : (p_C m v).ta = m.ta := rfl
theorem p_C_N (m : Ms) (v : Int) : (p_C m v).N = m.N := rfl
theorem p_C_p (m : Ms) (v : Int) : (p_C m v).p = m.p := rfl
def p_Y (m : Ms) (v : Bool) : Ms := { m with Y := v }
theorem p_Y_K (m : Ms) (v : Bool) : (p_Y m v).K = m.K := rfl
theorem p_Y_T (m : Ms) (v : Bool) : (p_Y m v).T = m.T := rfl
theorem p_Y_P (m : Ms) (v : Bool) : (p_Y m v).P = m.P := rfl
theorem p_Y_PT (m : Ms) (v : Bool) : (p_Y m v).PT = m.PT := rfl
theorem p_Y_es (m : Ms) (v : Bool) : (p_Y m v).es = m.es := rfl
theorem p_Y_C (m : Ms) (v : Bool) : (p_Y m v).C = m.C := rfl
theorem p_Y_Y (m : Ms) (v : Bool) : (p_Y m v).Y = v := rfl
theorem p_Y_M (m : Ms) (v : Bool) : (p_Y m v).M = m.M := rfl
theorem p_Y_S (m : Ms) (v : Bool) : (p_Y m v).S = m.S := rfl
theorem p_Y_l (m : Ms) (v : Bool) : (p_Y m v).l = m.l := rfl
theorem p_Y_n (m : Ms) (v : Bool) : (p_Y m v).n = m.n := rfl
theorem p_Y_la (m : Ms) (v : Bool) : (p_Y m v).la = m.la := rfl
theorem p_Y_ta (m : Ms) (v : Bool) : (p_Y m v).ta = m.ta := rfl
theorem p_Y_N (m : Ms) (v : Bool) : (p_Y m v).N = m.N := rfl
theorem p_Y_p (m : Ms) (v : Bool) : (p_Y m v).p = m.p := rfl
def p_M (m : Ms) (v : Int) : Ms := { m with M := v }
theorem p_M_K (m : Ms) (v : Int) : (p_M m v).K = m.K := rfl
theorem p_M_T (m : Ms) (v : Int) : (p_M m v).T = m.T := rfl
theorem p_M_P (m : Ms) (v : Int) : (p_M m v).P = m.P := rfl
theorem p_M_PT (m : Ms) (v : Int) : (p_M m v).PT = m.PT := rfl
theorem p_M_es (m : Ms) (v : Int) : (p_M m v).es = m.es := rfl
theorem p_M_C (m : Ms) (v : Int) : (p_M m v).C = m.C := rfl
theorem p_M_Y (m : Ms) (v : Int) : (p_M m v).Y = m.Y := rfl
theorem p_M_M (m : Ms) (v : Int) : (p_M m v).M = v := rfl
theorem p_M_S (m : Ms) (v : Int) : (p_M m v).S = m.S := rfl
theorem p_M_l (m : Ms) (v : Int) : (p_M m v).l = m.l := rfl
theorem p_M_n (m : Ms) (v : Int) : (p_M m v).n = m.n := rfl
theorem p_M_la (m : Ms) (v : Int) : (p_M m v).la = m.la := rfl
theorem p_M_ta (m : Ms) (v : Int) : (p_M m v).ta = m.ta := rfl
theorem p_M_N (m : Ms) (v : Int) : (p_M m v).N = m.N := rfl
theorem p_M_p (m : Ms) (v : Int) : (p_M m v).p = m.p := rfl
def p_S (m : Ms) (v : Int) : Ms := { m with S := v }
theorem p_S_K (m : Ms) (v : Int) : (p_S m v).K = m.K := rfl
theorem p_S_T (m : Ms) (v : Int) : (p_S m v).T = m.T := rfl
theorem p_S_P (m : Ms) (v : Int) : (p_S m v).P = m.P := rfl
theorem p_S_PT (m : Ms) (v : Int) : (p_S m v).PT = m.PT := rfl
theorem p_S_es (m : Ms) (v : Int) : (p_S m v).es = m.es := rfl
theorem p_S_C (m : Ms) (v : Int) : (p_S m v).C = m.C := rfl
theorem p_S_Y (m : Ms) (v : Int) : (p_S m v).Y = m.Y := rfl
theorem p_S_M (m : Ms) (v : Int) : (p_S m v).M = m.M := rfl
theorem p_S_S (m : Ms) (v : Int) : (p_S m v).S = v := rfl
theorem p_S_l (m : Ms) (v : Int) : (p_S m v).l = m.l := rfl
theorem p_S_n (m : Ms) (v : Int) : (p_S m v).n = m.n := rfl
theorem p_S_la (m : Ms) (v : Int) : (p_S m v).la = m.la := rfl
theorem p_S_ta (m : Ms) (v : Int) : (p_S m v).ta = m.ta := rfl
theorem p_S_N (m : Ms) (v : Int) : (p_S m v).N = m.N := rfl
theorem p_S_p (m : Ms) (v : Int) : (p_S m v).p = m.p := rfl
def p_l (m : Ms) (v : Ln) : Ms := { m with l := v }
theorem p_l_K (m : Ms) (v : Ln) : (p_l m v).K = m.K := rfl
theorem p_l_T (m : Ms) (v : Ln) : (p_l m v).T = m.T := rfl
theorem p_l_P (m : Ms) (v : Ln) : (p_l m v).P = m.P := rfl
theorem p_l_PT (m : Ms) (v : Ln) : (p_l m v).PT = m.PT := rfl
theorem p_l_es (m : Ms) (v : Ln) : (p_l m v).es = m.es := rfl
theorem p_l_C (m : Ms) (v : Ln) : (p_l m v).C = m.C := rfl
theorem p_l_Y (m : Ms) (v : Ln) : (p_l m v).Y = m.Y := rfl
theorem p_l_M (m : Ms) (v : Ln) : (p_l m v).M = m.M := rfl
theorem p_l_S (m : Ms) (v : Ln) : (p_l m v).S = m.S := rfl
theorem p_l_l (m : Ms) (v : Ln) : (p_l m v).l = v := rfl
theorem p_l_n (m : Ms) (v : Ln) : (p_l m v).n = m.n := rfl
theorem p_l_la (m : Ms) (v : Ln) : (p_l m v).la = m.la := rfl
theorem p_l_ta (m : Ms) (v : Ln) : (p_l m v).ta = m.ta := rfl
theorem p_l_N (m : Ms) (v : Ln) : (p_l m v).N = m.N := rfl
theorem p_l_p (m : Ms) (v : Ln) : (p_l m v).p = m.p := rfl
def p_n (m : Ms) (v : Int) : Ms := { m with n := v }
theorem p_n_K (m : Ms) (v : Int) : (p_n m v).K = m.K := rfl
theorem p_n_T (m : Ms) (v : Int) : (p_n m v).T = m.T := rfl
theorem p_n_P (m : Ms) (v : Int) : (p_n m v).P = m.P := rfl
theorem p_n_PT (m : Ms) (v : Int) : (p_n m v).PT = m.PT := rfl
theorem p_n_es (m : Ms) (v : Int) : (p_n m v).es = m.es := rfl
theorem p_n_C (m : Ms) (v : Int) : (p_n m v).C = m.C := rfl
theorem p_n_Y (m : Ms) (v : Int) : (p_n m v).Y = m.Y := rfl
theorem p_n_M (m : Ms) (v : Int) : (p_n m v).M = m.M := rfl
theorem p_n_S (m : Ms) (v : Int) : (p_n m v).S = m.S := rfl
theorem p_n_l (m : Ms) (v : Int) : (p_n m v).l = m.l := rfl
theorem p_n_n (m : Ms) (v : Int) : (p_n m v).n = v := rfl
theorem p_n_la (m : Ms) (v : Int) : (p_n m v).la = m.la := rfl
theorem p_n_ta (m : Ms) (v : Int) : (p_n m v).ta = m.ta := rfl
theorem p_n_N (m : Ms) (v : Int) : (p_n m v).N = m.N := rfl
theorem p_n_p (m : Ms) (v : Int) : (p_n m v).p = m.p := rfl
def p_la (m : Ms) (v : Gd) : Ms := { m with la := v }
theorem p_la_K (m : Ms) (v : Gd) : (p_la m v).K = m.K := rfl
theorem p_la_T (m : Ms) (v : Gd) : (p_la m v).T = m.T := rfl
theorem p_la_P (m : Ms) (v : Gd) : (p_la m v).P = m.P := rfl
theorem p_la_PT (m : Ms) (v : Gd) : (p_la m v).PT = m.PT := rfl
theorem p_la_es (m : Ms) (v : Gd) : (p_la m v).es = m.es := rfl
theorem p_la_C (m : Ms) (v : Gd) : (p_la m v).C = m.C := rfl
theorem p_la_Y (m : Ms) (v : Gd) : (p_la m v).Y = m.Y := rfl
theorem p_la_M (m : Ms) (v : Gd) : (p_la m v).M = m.M := rfl
theorem p_la_S (m : Ms) (v : Gd) : (p_la m v).S = m.S := rfl
theorem p_la_l (m : Ms) (v : Gd) : (p_la m v).l = m.l := rfl
theorem p_la_n (m : Ms) (v : Gd) : (p_la m v).n = m.n := rfl
theorem p_la_la (m : Ms) (v : Gd) : (p_la m v).la = v := rfl
theorem p_la_ta (m : Ms) (v : Gd) : (p_la m v).ta = m.ta := rfl
theorem p_la_N (m : Ms) (v : Gd) : (p_la m v).N = m.N := rfl
theorem p_la_p (m : Ms) (v : Gd) : (p_la m v).p = m.p := rfl
def p_ta (m : Ms) (v : Gd) : Ms := { m with ta := v }
theorem p_ta_K (m : Ms) (v : Gd) : (p_ta m v).K = m.K := rfl
theorem p_ta_T (m : Ms) (v : Gd) : (p_ta m v).T = m.T := rfl
theorem p_ta_P (m : Ms) (v : Gd) : (p_ta m v).P = m.P := rfl
theorem p_ta_PT (m : Ms) (v : Gd) : (p_ta m v).PT = m.PT := rfl
theorem p_ta_es (m : Ms) (v : Gd) : (p_ta m v).es = m.es := rfl
theorem p_ta_C (m : Ms) (v : Gd) : (p_ta m v).C = m.C := rfl
theorem p_ta_Y (m : Ms) (v : Gd) : (p_ta m v).Y = m.Y := rfl
theorem p_ta_M (m : Ms) (v : Gd) : (p_ta m v).M = m.M := rfl
theorem p_ta_S (m : Ms) (v : Gd) : (p_ta m v).S = m.S := rfl
theorem p_ta_l (m : Ms) (v : Gd) : (p_ta m v).l = m.l := rfl
theorem p_ta_n (m : Ms) (v : Gd) : (p_ta m v).n = m.n := rfl
theorem p_ta_la (m : Ms) (v : Gd) : (p_ta m v).la = m.la := rfl
theorem p_ta_ta (m : Ms) (v : Gd) : (p_ta m v).ta = v := rfl
theorem p_ta_N (m : Ms) (v : Gd) : (p_ta m v).N = m.N := rfl
theorem p_ta_p (m : Ms) (v : Gd) : (p_ta m v).p = m.p := rfl
def p_N (m : Ms) (v : Int) : Ms := { m with N := v }
theorem p_N_K (m : Ms) (v : Int) : (p_N m v).K = m.K := rfl
theorem p_N_T (m : Ms) (v : Int) : (p_N m v).T = m.T := rfl
theorem p_N_P (m : Ms) (v : Int) : (p_N m v).P = m.P := rfl
theorem p_N_PT (m : Ms) (v : Int) : (p_N m v).PT = m.PT := rfl
theorem p_N_es (m : Ms) (v : Int) : (p_N m v).es = m.es := rfl
theorem p_N_C (m : Ms) (v : Int) : (p_N m v).C = m.C := rfl
theorem p_N_Y (m : Ms) (v : Int) : (p_N m v).Y = m.Y := rfl
theorem p_N_M (m : Ms) (v : Int) : (p_N m v).M = m.M := rfl
theorem p_N_S (m : Ms) (v : Int) : (p_N m v).S = m.S := rfl
theorem p_N_l (m : Ms) (v : Int) : (p_N m v).l = m.l := rfl
theorem p_N_n (m : Ms) (v : Int) : (p_N m v).n = m.n := rfl
theorem p_N_la (m : Ms) (v : Int) : (p_N m v).la = m.la := rfl
theorem p_N_ta (m : Ms) (v : Int) : (p_N m v).ta = m.ta := rfl
theorem p_N_N (m : Ms) (v : Int) : (p_N m v).N = v := rfl
theorem p_N_p (m : Ms) (v : Int) : (p_N m v).p = m.p := rfl
def p_p (m : Ms) (v : Prt) : Ms := { m with p := v }
theorem p_p_K (m : Ms) (v : Prt) : (p_p m v).K = m.K := rfl
theorem p_p_T (m : Ms) (v : Prt) : (p_p m v).T = m.T := rfl
theorem p_p_P (m : Ms) (v : Prt) : (p_p m v).P = m.P := rfl
theorem p_p_PT (m : Ms) (v : Prt) : (p_p m v).PT = m.PT := rfl
theorem p_p_es (m : Ms) (v : Prt) : (p_p m v).es = m.es := rfl
theorem p_p_C (m : Ms) (v : Prt) : (p_p m v).C = m.C := rfl
theorem p_p_Y (m : Ms) (v : Prt) : (p_p m v).Y = m.Y := rfl
theorem p_p_M (m : Ms) (v : Prt) : (p_p m v).M = m.M := rfl
theorem p_p_S (m : Ms) (v : Prt) : (p_p m v).S = m.S := rfl
theorem p_p_l (m : Ms) (v : Prt) : (p_p m v).l = m.l := rfl
theorem p_p_n (m : Ms) (v : Prt) : (p_p m v).n = m.n := rfl
theorem p_p_la (m : Ms) (v : Prt) : (p_p m v).la = m.la := rfl
theorem p_p_ta (m : Ms) (v : Prt) : (p_p m v).ta = m.ta := rfl
theorem p_p_N (m : Ms) (v : Prt) : (p_p m v).N = m.N := rfl
theorem p_p_p (m : Ms) (v : Prt) : (p_p m v).p = v := rfl
def iT (q : Sf × Ms) : Sf × Ms := ((numS q.1 q.2.T).1, p_T q.2 (numS q.1 q.2.T).2)
theorem iT_1 (q : Sf × Ms) : (iT q).1 = (numS q.1 q.2.T).1 := rfl
theorem iT_2 (q : Sf × Ms) : (iT q).2 = p_T q.2 (numS q.1 q.2.T).2 := rfl
def iP (q : Sf × Ms) : Sf × Ms := ((intF q.1 q.2.P).1, p_P q.2 (intF q.1 q.2.P).2)
theorem iP_1 (q : Sf × Ms) : (iP q).1 = (intF q.1 q.2.P).1 := rfl
theorem iP_2 (q : Sf × Ms) : (iP q).2 = p_P q.2 (intF q.1 q.2.P).2 := rfl
def iPT (q : Sf × Ms) : Sf × Ms := ((numS q.1 q.2.PT).1, p_PT q.2 (numS q.1 q.2.PT).2)
theorem iPT_1 (q : Sf × Ms) : (iPT q).1 = (numS q.1 q.2.PT).1 := rfl
theorem iPT_2 (q : Sf × Ms) : (iPT q).2 = p_PT q.2 (numS q.1 q.2.PT).2 := rfl
def iY (q : Sf × Ms) : Sf × Ms := ((yesF q.1 q.2.Y).1, p_Y q.2 (yesF q.1 q.2.Y).2)
theorem iY_1 (q : Sf × Ms) : (iY q).1 = (yesF q.1 q.2.Y).1 := rfl
theorem iY_2 (q : Sf × Ms) : (iY q).2 = p_Y q.2 (yesF q.1 q.2.Y).2 := rfl
def iC (q : Sf × Ms) : Sf × Ms := ((intF q.1 q.2.C).1, p_C q.2 (intF q.1 q.2.C).2)
theorem iC_1 (q : Sf × Ms) : (iC q).1 = (intF q.1 q.2.C).1 := rfl
theorem iC_2 (q : Sf × Ms) : (iC q).2 = p_C q.2 (intF q.1 q.2.C).2 := rfl
def iM (q : Sf × Ms) : Sf × Ms := ((intF q.1 q.2.M).1, p_M q.2 (intF q.1 q.2.M).2)
theorem iM_1 (q : Sf × Ms) : (iM q).1 = (intF q.1 q.2.M).1 := rfl
theorem iM_2 (q : Sf × Ms) : (iM q).2 = p_M q.2 (intF q.1 q.2.M).2 := rfl
def iL (q : Sf × Ms) : Sf × Ms := ((intF q.1 q.2.n).1, p_n q.2 (intF q.1 q.2.n).2)
theorem iL_1 (q : Sf × Ms) : (iL q).1 = (intF q.1 q.2.n).1 := rfl
theorem iL_2 (q : Sf × Ms) : (iL q).2 = p_n q.2 (intF q.1 q.2.n).2 := rfl
def iN (q : Sf × Ms) : Sf × Ms := ((intF q.1 q.2.N).1, p_N q.2 (intF q.1 q.2.N).2)
theorem iN_1 (q : Sf × Ms) : (iN q).1 = (intF q.1 q.2.N).1 := rfl
theorem iN_2 (q : Sf × Ms) : (iN q).2 = p_N q.2 (intF q.1 q.2.N).2 := rfl
def iS (q : Sf × Ms) : Sf × Ms := ((stF q.1 q.2.S).1, p_S q.2 (stF q.1 q.2.S).2)
theorem iS_1 (q : Sf × Ms) : (iS q).1 = (stF q.1 q.2.S).1 := rfl
theorem iS_2 (q : Sf × Ms) : (iS q).2 = p_S q.2 (stF q.1 q.2.S).2 := rfl
def iLa (q : Sf × Ms) : Sf × Ms := ((gdS q.1 q.2.la).1, p_la q.2 (gdS q.1 q.2.la).2)
theorem iLa_1 (q : Sf × Ms) : (iLa q).1 = (gdS q.1 q.2.la).1 := rfl
theorem iLa_2 (q : Sf × Ms) : (iLa q).2 = p_la q.2 (gdS q.1 q.2.la).2 := rfl
def iTa (q : Sf × Ms) : Sf × Ms := ((gdS q.1 q.2.ta).1, p_ta q.2 (gdS q.1 q.2.ta).2)
theorem iTa_1 (q : Sf × Ms) : (iTa q).1 = (gdS q.1 q.2.ta).1 := rfl
theorem iTa_2 (q : Sf × Ms) : (iTa q).2 = p_ta q.2 (gdS q.1 q.2.ta).2 := rfl
theorem entF_2 (S : Sf) (m : Ms) : (entF S m).2 = p_es m (eLp (intF S (m.es.length : Nat)).1 (szE S m.es) (szE S m.es).length).2 := rfl
theorem lineF_2 (S : Sf) (m : Ms) : ∃ l, (lineF S m).2 = p_l m l := ⟨_, rfl⟩
def askF (S : Sf) (m : Ms) : Sf × Ms := iPT (iP (iT (S, m)))
def voteF (S : Sf) (m : Ms) : Sf × Ms := iY (iT (S, m))
def appendsF (S : Sf) (m : Ms) : Sf × Ms := iS (iC (entF (askF S m).1 (askF S m).2))
def appendedF (S : Sf) (m : Ms) : Sf × Ms := iS (iM (voteF S m))
def pullF (S : Sf) (m : Ms) : Sf × Ms := iN (iTa (iLa (iL (lineF S m))))
def partedF (S : Sf) (m : Ms) : Sf × Ms := partF (lineF S m).1 (lineF S m).2
def allF (S : Sf) (m : Ms) : Sf × Ms :=
  if m.K = 1 then askF S m else if m.K = 2 then voteF S m else if m.K = 3 then appendsF S m else if m.K = 4 then appendedF S m
  else if m.K = 5 then pullF S m else if m.K = 6 then partedF S m else if m.K = 7 then lineF S m else (⟨S.m, true⟩, m)
theorem askF_es (S : Sf) (m : Ms) : (askF S m).2.es = m.es := by simp only [askF, iPT_2, iP_2, iT_2, p_PT_es, p_P_es, p_T_es]
theorem voteF_es (S : Sf) (m : Ms) : (voteF S m).2.es = m.es := by simp only [voteF, iY_2, iT_2, p_Y_es, p_T_es]
theorem askF_C (S : Sf) (m : Ms) : (askF S m).2.C = m.C := by simp only [askF, iPT_2, iP_2, iT_2, p_PT_C, p_P_C, p_T_C]
theorem voteF_C (S : Sf) (m : Ms) : (voteF S m).2.C = m.C := by simp only [voteF, iY_2, iT_2, p_Y_C, p_T_C]
theorem askF_M (S : Sf) (m : Ms) : (askF S m).2.M = m.M := by simp only [askF, iPT_2, iP_2, iT_2, p_PT_M, p_P_M, p_T_M]
theorem voteF_M (S : Sf) (m : Ms) : (voteF S m).2.M = m.M := by simp only [voteF, iY_2, iT_2, p_Y_M, p_T_M]
theorem askF_S (S : Sf) (m : Ms) : (askF S m).2.S = m.S := by simp only [askF, iPT_2, iP_2, iT_2, p_PT_S, p_P_S, p_T_S]
theorem voteF_S (S : Sf) (m : Ms) : (voteF S m).2.S = m.S := by simp only [voteF, iY_2, iT_2, p_Y_S, p_T_S]
theorem askF_l (S : Sf) (m : Ms) : (askF S m).2.l = m.l := by simp only [askF, iPT_2, iP_2, iT_2, p_PT_l, p_P_l, p_T_l]
theorem voteF_l (S : Sf) (m : Ms) : (voteF S m).2.l = m.l := by simp only [voteF, iY_2, iT_2, p_Y_l, p_T_l]
theorem askF_p (S : Sf) (m : Ms) : (askF S m).2.p = m.p := by simp only [askF, iPT_2, iP_2, iT_2, p_PT_p, p_P_p, p_T_p]
theorem voteF_p (S : Sf) (m : Ms) : (voteF S m).2.p = m.p := by simp only [voteF, iY_2, iT_2, p_Y_p, p_T_p]
theorem askF_n (S : Sf) (m : Ms) : (askF S m).2.n = m.n := by simp only [askF, iPT_2, iP_2, iT_2, p_PT_n, p_P_n, p_T_n]
theorem voteF_n (S : Sf) (m : Ms) : (voteF S m).2.n = m.n := by simp only [voteF, iY_2, iT_2, p_Y_n, p_T_n]
theorem askF_la (S : Sf) (m : Ms) : (askF S m).2.la = m.la := by simp only [askF, iPT_2, iP_2, iT_2, p_PT_la, p_P_la, p_T_la]
theorem voteF_la (S : Sf) (m : Ms) : (voteF S m).2.la = m.la := by simp only [voteF, iY_2, iT_2, p_Y_la, p_T_la]
theorem askF_ta (S : Sf) (m : Ms) : (askF S m).2.ta = m.ta := by simp only [askF, iPT_2, iP_2, iT_2, p_PT_ta, p_P_ta, p_T_ta]
theorem voteF_ta (S : Sf) (m : Ms) : (voteF S m).2.ta = m.ta := by simp only [voteF, iY_2, iT_2, p_Y_ta, p_T_ta]
theorem askF_N (S : Sf) (m : Ms) : (askF S m).2.N = m.N := by simp only [askF, iPT_2, iP_2, iT_2, p_PT_N, p_P_N, p_T_N]
theorem voteF_N (S : Sf) (m : Ms) : (voteF S m).2.N = m.N := by simp only [voteF, iY_2, iT_2, p_Y_N, p_T_N]
theorem lineF_n (S : Sf) (m : Ms) : (lineF S m).2.n = m.n := by obtain ⟨l, h⟩ := lineF_2 S m; rw [h, p_l_n]
theorem lineF_la (S : Sf) (m : Ms) : (lineF S m).2.la = m.la := by obtain ⟨l, h⟩ := lineF_2 S m; rw [h, p_l_la]
theorem lineF_ta (S : Sf) (m : Ms) : (lineF S m).2.ta = m.ta := by obtain ⟨l, h⟩ := lineF_2 S m; rw [h, p_l_ta]
theorem lineF_N (S : Sf) (m : Ms) : (lineF S m).2.N = m.N := by obtain ⟨l, h⟩ := lineF_2 S m; rw [h, p_l_N]
theorem lineF_p (S : Sf) (m : Ms) : (lineF S m).2.p = m.p := by obtain ⟨l, h⟩ := lineF_2 S m; rw [h, p_l_p]
theorem lineF_es (S : Sf) (m : Ms) : (lineF S m).2.es = m.es := by obtain ⟨l, h⟩ := lineF_2 S m; rw [h, p_l_es]
def in8 (x : Int) : Prop := 0 ≤ x ∧ x ≤ 8192
def u64 (x : Int) : Prop := (Lit.int .u64 x).wf = true
section
variable {W : World} {fb mb : Nat} {Z : Nat → Prop} {B : Nat} {S S' : Sf} {m m' : Ms} {w w' : World}
theorem FS.grow (h : FS W fb mb Z B S m w) (hb : Below w.heap.size w w') : FS W fb mb Z B S m w' := h.turn (Kp.of_below hb) (h.fd.keep hb) (Alike.refl _) h.sz
theorem st_T (m : Ms) (v : Int) (se sl sc : Value) : (msA m se sl sc).setIfInBounds 1 (.int .u64 v) = msA (p_T m v) se sl sc := rfl
theorem st_P (m : Ms) (v : Int) (se sl sc : Value) : (msA m se sl sc).setIfInBounds 2 (.int .i64 v) = msA (p_P m v) se sl sc := rfl
theorem st_PT (m : Ms) (v : Int) (se sl sc : Value) : (msA m se sl sc).setIfInBounds 3 (.int .u64 v) = msA (p_PT m v) se sl sc := rfl
theorem st_C (m : Ms) (v : Int) (se sl sc : Value) : (msA m se sl sc).setIfInBounds 5 (.int .i64 v) = msA (p_C m v) se sl sc := rfl
theorem st_Y (m : Ms) (v : Bool) (se sl sc : Value) : (msA m se sl sc).setIfInBounds 6 (.bool v) = msA (p_Y m v) se sl sc := rfl
theorem st_M (m : Ms) (v : Int) (se sl sc : Value) : (msA m se sl sc).setIfInBounds 7 (.int .i64 v) = msA (p_M m v) se sl sc := rfl
theorem st_S (m : Ms) (v : Int) (se sl sc : Value) : (msA m se sl sc).setIfInBounds 8 (.int .i64 v) = msA (p_S m v) se sl sc := rfl
theorem st_n (m : Ms) (v : Int) (se sl sc : Value) : (msA m se sl sc).setIfInBounds 13 (.int .i64 v) = msA (p_n m v) se sl sc := rfl
theorem st_la (m : Ms) (x y : Int) (se sl sc : Value) : ((msA m se sl sc).setIfInBounds 14 (.int .u64 x)).setIfInBounds (14 + 1) (.int .u64 y) = msA (p_la m (x, y)) se sl sc := rfl
theorem st_ta (m : Ms) (x y : Int) (se sl sc : Value) : ((msA m se sl sc).setIfInBounds 16 (.int .u64 x)).setIfInBounds (16 + 1) (.int .u64 y) = msA (p_ta m (x, y)) se sl sc := rfl
theorem st_N (m : Ms) (v : Int) (se sl sc : Value) : (msA m se sl sc).setIfInBounds 18 (.int .i64 v) = msA (p_N m v) se sl sc := rfl
theorem FS.iT {q : Sf × Ms} (h : FS W fb mb Z B q.1 q.2 w) (hx : u64 q.2.T) (hB : B ≤ 900000) :
    Calls Try.prog 36 #[.pointer (some ⟨fb, 0, none⟩), .slice (some ⟨w.heap.size, 0, none⟩) 1 1] (w.alloc (.cells #[.pointer (some ⟨mb, 1, none⟩)] 85)) fun e w' => e = .returned (.tuple #[]) ∧ FS W fb mb Z (B + 9) (iT q).1 (iT q).2 w' :=
  h.num (m' := p_T q.2 (numS q.1 q.2.T).2) 1 q.2.T hx (fun _ _ _ => rfl) (fun _ _ _ => st_T _ _ _ _ _) (p_T_es _ _) (by rw [p_T_l]) (p_T_p _ _) hB
theorem FS.iP {q : Sf × Ms} (h : FS W fb mb Z B q.1 q.2 w) (hx : in8 q.2.P) (hB : B ≤ 900000) :
    Calls Try.prog 22 #[.pointer (some ⟨fb, 0, none⟩), .slice (some ⟨w.heap.size, 0, none⟩) 1 1] (w.alloc (.cells #[.pointer (some ⟨mb, 2, none⟩)] 70)) fun e w' => e = .returned (.tuple #[]) ∧ FS W fb mb Z (B + 9) (iP q).1 (iP q).2 w' :=
  h.int (m' := p_P q.2 (intF q.1 q.2.P).2) 2 q.2.P hx (fun _ _ _ => rfl) (fun _ _ _ => st_P _ _ _ _ _) (p_P_es _ _) (by rw [p_P_l]) (p_P_p _ _) hB
theorem FS.iPT {q : Sf × Ms} (h : FS W fb mb Z B q.1 q.2 w) (hx : u64 q.2.PT) (hB : B ≤ 900000) :
    Calls Try.prog 36 #[.pointer (some ⟨fb, 0, none⟩), .slice (some ⟨w.heap.size, 0, none⟩) 1 1] (w.alloc (.cells #[.pointer (some ⟨mb, 3, none⟩)] 85)) fun e w' => e = .returned (.tuple #[]) ∧ FS W fb mb Z (B + 9) (iPT q).1 (iPT q).2 w' :=
  h.num (m' := p_PT q.2 (numS q.1 q.2.PT).2) 3 q.2.PT hx (fun _ _ _ => rfl) (fun _ _ _ => st_PT _ _ _ _ _) (p_PT_es _ _) (by rw [p_PT_l]) (p_PT_p _ _) hB
theorem FS.iY {q : Sf × Ms} (h : FS W fb mb Z B q.1 q.2 w) (hB : B ≤ 900000) :
    Calls Try.prog 54 #[.pointer (some ⟨fb, 0, none⟩), .pointer (some ⟨mb, 6, none⟩)] w fun e w' => e = .returned (.tuple #[]) ∧ FS W fb mb Z (B + 9) (iY q).1 (iY q).2 w' :=
  h.yes (m' := p_Y q.2 (yesF q.1 q.2.Y).2) 6 q.2.Y (fun _ _ _ => rfl) (fun _ _ _ => st_Y _ _ _ _ _) (p_Y_es _ _) (by rw [p_Y_l]) (p_Y_p _ _) hB
theorem FS.iC {q : Sf × Ms} (h : FS W fb mb Z B q.1 q.2 w) (hx : in8 q.2.C) (hB : B ≤ 900000) :
    Calls Try.prog 22 #[.pointer (some ⟨fb, 0, none⟩), .slice (some ⟨w.heap.size, 0, none⟩) 1 1] (w.alloc (.cells #[.pointer (some ⟨mb, 5, none⟩)] 70)) fun e w' => e = .returned (.tuple #[]) ∧ FS W fb mb Z (B + 9) (iC q).1 (iC q).2 w' :=
  h.int (m' := p_C q.2 (intF q.1 q.2.C).2) 5 q.2.C hx (fun _ _ _ => rfl) (fun _ _ _ => st_C _ _ _ _ _) (p_C_es _ _) (by rw [p_C_l]) (p_C_p _ _) hB
theorem FS.iM {q : Sf × Ms} (h : FS W fb mb Z B q.1 q.2 w) (hx : in8 q.2.M) (hB : B ≤ 900000) :
    Calls Try.prog 22 #[.pointer (some ⟨fb, 0, none⟩), .slice (some ⟨w.heap.size, 0, none⟩) 1 1] (w.alloc (.cells #[.pointer (some ⟨mb, 7, none⟩)] 70)) fun e w' => e = .returned (.tuple #[]) ∧ FS W fb mb Z (B + 9) (iM q).1 (iM q).2 w' :=
  h.int (m' := p_M q.2 (intF q.1 q.2.M).2) 7 q.2.M hx (fun _ _ _ => rfl) (fun _ _ _ => st_M _ _ _ _ _) (p_M_es _ _) (by rw [p_M_l]) (p_M_p _ _) hB
theorem FS.iL {q : Sf × Ms} (h : FS W fb mb Z B q.1 q.2 w) (hx : in8 q.2.n) (hB : B ≤ 900000) :
    Calls Try.prog 22 #[.pointer (some ⟨fb, 0, none⟩), .slice (some ⟨w.heap.size, 0, none⟩) 1 1] (w.alloc (.cells #[.pointer (some ⟨mb, 13, none⟩)] 70)) fun e w' => e = .returned (.tuple #[]) ∧ FS W fb mb Z (B + 9) (iL q).1 (iL q).2 w' :=
  h.int (m' := p_n q.2 (intF q.1 q.2.n).2) 13 q.2.n hx (fun _ _ _ => rfl) (fun _ _ _ => st_n _ _ _ _ _) (p_n_es _ _) (by rw [p_n_l]) (p_n_p _ _) hB
theorem FS.iN {q : Sf × Ms} (h : FS W fb mb Z B q.1 q.2 w) (hx : in8 q.2.N) (hB : B ≤ 900000) :
    Calls Try.prog 22 #[.pointer (some ⟨fb, 0, none⟩), .slice (some ⟨w.heap.size, 0, none⟩) 1 1] (w.alloc (.cells #[.pointer (some ⟨mb, 18, none⟩)] 70)) fun e w' => e = .returned (.tuple #[]) ∧ FS W fb mb Z (B + 9) (iN q).1 (iN q).2 w' :=
  h.int (m' := p_N q.2 (intF q.1 q.2.N).2) 18 q.2.N hx (fun _ _ _ => rfl) (fun _ _ _ => st_N _ _ _ _ _) (p_N_es _ _) (by rw [p_N_l]) (p_N_p _ _) hB
theorem FS.iS {q : Sf × Ms} (h : FS W fb mb Z B q.1 q.2 w) (hx : 0 ≤ q.2.S ∧ q.2.S ≤ 9223372036854775807) (hB : B ≤ 900000) :
    Calls Try.prog 56 #[.pointer (some ⟨fb, 0, none⟩)] w fun e w' => e = .returned (.tuple #[]) ∧ FS W fb mb Z (B + 9) (iS q).1 (iS q).2 w' := h.stamp hx hB
theorem FS.iLa {q : Sf × Ms} (h : FS W fb mb Z B q.1 q.2 w) (hx : wfG q.2.la) (hB : B ≤ 900000) :
    Calls Try.prog 57 #[.pointer (some ⟨fb, 0, none⟩), .pointer (some ⟨mb, 14, none⟩)] w fun e w' => e = .returned (.tuple #[]) ∧ FS W fb mb Z (B + 18) (iLa q).1 (iLa q).2 w' :=
  h.guid (m' := p_la q.2 (gdS q.1 q.2.la).2) 14 q.2.la hx (fun _ _ _ => rfl) (fun _ _ _ => rfl) (fun _ _ _ => st_la _ _ _ _ _ _) (p_la_es _ _) (by rw [p_la_l]) (p_la_p _ _) hB
theorem FS.iTa {q : Sf × Ms} (h : FS W fb mb Z B q.1 q.2 w) (hx : wfG q.2.ta) (hB : B ≤ 900000) :
    Calls Try.prog 57 #[.pointer (some ⟨fb, 0, none⟩), .pointer (some ⟨mb, 16, none⟩)] w fun e w' => e = .returned (.tuple #[]) ∧ FS W fb mb Z (B + 18) (iTa q).1 (iTa q).2 w' :=
  h.guid (m' := p_ta q.2 (gdS q.1 q.2.ta).2) 16 q.2.ta hx (fun _ _ _ => rfl) (fun _ _ _ => rfl) (fun _ _ _ => st_ta _ _ _ _ _ _) (p_ta_es _ _) (by rw [p_ta_l]) (p_ta_p _ _) hB
set_option maxHeartbeats 1000000 in
theorem ask_any (h : FS W fb mb Z B S m w) (hT : u64 m.T) (hP : in8 m.P) (hPT : u64 m.PT) (hB : B ≤ 800000) :
    Calls Try.prog 37 #[.pointer (some ⟨fb, 0, none⟩)] w fun e w' => e = .returned (.tuple #[]) ∧ FS W fb mb Z (B + 27) (askF S m).1 (askF S m).2 w' := by
  obtain ⟨q0, hq0⟩ : ∃ q : Sf × Ms, q = (S, m) := ⟨_, rfl⟩
  obtain ⟨q1, hq1⟩ : ∃ q : Sf × Ms, q = iT q0 := ⟨_, rfl⟩
  have xP : q1.2.P = m.P := by rw [hq1, iT_2, p_T_P, hq0]
  have xPT : q1.2.PT = m.PT := by rw [hq1, iT_2, p_T_PT, hq0]
  obtain ⟨q2, hq2⟩ : ∃ q : Sf × Ms, q = iP q1 := ⟨_, rfl⟩
  have yPT : q2.2.PT = m.PT := by rw [hq2, iP_2, p_P_PT, xPT]
  have hal : askF S m = (iPT q2) := by rw [askF, hq2, hq1, hq0]
  rw [hal]
  have h0 : FS W fb mb Z B q0.1 q0.2 w := by rw [hq0]; exact h
  have H0 := Lib.hid (h0.iT (by rw [hq0]; exact hT) (by omega))
  rw [← hq1] at H0
  have H1 := Lib.hid (fun w2 (h2 : FS W fb mb Z (B + 9) q1.1 q1.2 w2) => h2.iP (by rw [xP]; exact hP) (by omega))
  rw [← hq2] at H1
  have H2 := Lib.hid (fun w2 (h2 : FS W fb mb Z (B + 9 + 9) q2.1 q2.2 w2) => h2.iPT (by rw [yPT]; exact hPT) (by omega))
  have c0 := h.slots
  clear h hB hal h0
  go_enter Try.func37, Try.ntmps37
  go_wp2_with fail
  refine (H0.out).mono ?_
  rintro e w0 ⟨rfl, h0⟩
  have d0 := h0.slots
  have G0 := Lib.hid h0
  clear c0 h0
  go_wp2_with fail
  refine (H1.out w0 G0.out).mono ?_
  rintro e w1 ⟨rfl, h1⟩
  have d1 := h1.slots
  have G1 := Lib.hid h1
  clear d0 G0 h1
  go_wp2_with fail
  refine (H2.out w1 G1.out).mono ?_
  rintro e w2 ⟨rfl, h2⟩
  have d2 := h2.slots
  have G2 := Lib.hid h2
  clear d1 G1 h2
  go_wp2
  refine bodyPost_end (results_none rfl _ _ _) rfl ?_
  exact ⟨rfl, G2.out.mono (B' := B + 27) (by omega)⟩
set_option maxHeartbeats 1000000 in
theorem vote_any (h : FS W fb mb Z B S m w) (hT : u64 m.T) (hB : B ≤ 800000) :
    Calls Try.prog 38 #[.pointer (some ⟨fb, 0, none⟩)] w fun e w' => e = .returned (.tuple #[]) ∧ FS W fb mb Z (B + 18) (voteF S m).1 (voteF S m).2 w' := by
  obtain ⟨q0, hq0⟩ : ∃ q : Sf × Ms, q = (S, m) := ⟨_, rfl⟩
  obtain ⟨q1, hq1⟩ : ∃ q : Sf × Ms, q = iT q0 := ⟨_, rfl⟩
  have hal : voteF S m = (iY q1) := by rw [voteF, hq1, hq0]
  rw [hal]
  have h0 : FS W fb mb Z B q0.1 q0.2 w := by rw [hq0]; exact h
  have H0 := Lib.hid (h0.iT (by rw [hq0]; exact hT) (by omega))
  rw [← hq1] at H0
  have H1 := Lib.hid (fun w2 (h2 : FS W fb mb Z (B + 9) q1.1 q1.2 w2) => h2.iY (by omega))
  have c0 := h.slots
  clear h hB hal h0
  go_enter Try.func38, Try.ntmps38
  go_wp2_with fail
  refine (H0.out).mono ?_
  rintro e w0 ⟨rfl, h0⟩
  have d0 := h0.slots
  have G0 := Lib.hid h0
  clear c0 h0
  go_wp2_with fail
  refine (H1.out w0 G0.out).mono ?_
  rintro e w1 ⟨rfl, h1⟩
  have d1 := h1.slots
  have G1 := Lib.hid h1
  clear d0 G0 h1
  go_wp2
  refine bodyPost_end (results_none rfl _ _ _) rfl ?_
  exact ⟨rfl, G1.out.mono (B' := B + 18) (by omega)⟩
set_option maxHeartbeats 1000000 in
theorem appends_any (h : FS W fb mb Z B S m w) (hT : u64 m.T) (hP : in8 m.P) (hPT : u64 m.PT) (hK : ∀ e ∈ m.es, in8 e.K) (hL : m.es.length ≤ 8192) (hC : in8 m.C) (hS : 0 ≤ m.S ∧ m.S ≤ 9223372036854775807) (hrd : S.m.isRd = true → m.l.l = [] ∧ m.p.cs = []) (hB : B ≤ 100000) :
    Calls Try.prog 39 #[.pointer (some ⟨fb, 0, none⟩)] w fun e w' => e = .returned (.tuple #[]) ∧ FS W fb mb Z (B + 500000) (appendsF S m).1 (appendsF S m).2 w' := by
  obtain ⟨q1, hq1⟩ : ∃ q : Sf × Ms, q = askF S m := ⟨_, rfl⟩
  have x1 : q1.2.es = m.es := by rw [hq1, askF_es]
  have x2 : q1.2.l.l = m.l.l := by rw [hq1, askF_l]
  have x3 : q1.2.p.cs = m.p.cs := by rw [hq1, askF_p]
  have x4 : q1.2.C = m.C := by rw [hq1, askF_C]
  have x5 : q1.2.S = m.S := by rw [hq1, askF_S]
  have xr : q1.1.m.isRd = S.m.isRd := by rw [hq1, askF, iPT_1, alike_isRd_num, iP_1, alike_isRd_int, iT_1, alike_isRd_num]
  obtain ⟨q2, hq2⟩ : ∃ q : Sf × Ms, q = entF q1.1 q1.2 := ⟨_, rfl⟩
  have y4 : q2.2.C = m.C := by rw [hq2, entF_2, p_es_C, x4]
  have y5 : q2.2.S = m.S := by rw [hq2, entF_2, p_es_S, x5]
  obtain ⟨q3, hq3⟩ : ∃ q : Sf × Ms, q = iC q2 := ⟨_, rfl⟩
  have z5 : q3.2.S = m.S := by rw [hq3, iC_2, p_C_S, y5]
  have hal : appendsF S m = (iS q3) := by rw [appendsF, hq3, hq2, hq1]
  rw [hal]
  have H0 := Lib.hid (ask_any h hT hP hPT (by omega))
  rw [← hq1] at H0
  have H1 := Lib.hid (fun w2 (h2 : FS W fb mb Z (B + 27) q1.1 q1.2 w2) => ent_any h2 (by rw [x1]; exact hK) (by rw [x1]; exact hL) (by rw [x2, x3, xr]; exact hrd) (by omega))
  rw [← hq2] at H1
  have H2 := Lib.hid (fun w2 (h2 : FS W fb mb Z (B + 27 + 400000) q2.1 q2.2 w2) => h2.iC (by rw [y4]; exact hC) (by omega))
  rw [← hq3] at H2
  have H3 := Lib.hid (fun w2 (h2 : FS W fb mb Z (B + 27 + 400000 + 9) q3.1 q3.2 w2) => h2.iS (by rw [z5]; exact hS) (by omega))
  have c0 := h.slots
  clear h hB hal
  go_enter Try.func39, Try.ntmps39
  go_wp2_with fail
  refine (H0.out).mono ?_
  rintro e w0 ⟨rfl, h0⟩
  have d0 := h0.slots
  have G0 := Lib.hid h0
  clear c0 h0
  go_wp2_with fail
  refine (H1.out w0 G0.out).mono ?_
  rintro e w1 ⟨rfl, h1⟩
  have d1 := h1.slots
  have G1 := Lib.hid h1
  clear d0 G0 h1
  go_wp2_with fail
  refine (H2.out w1 G1.out).mono ?_
  rintro e w2 ⟨rfl, h2⟩
  have d2 := h2.slots
  have G2 := Lib.hid h2
  clear d1 G1 h2
  go_wp2_with fail
  refine (H3.out w2 G2.out).mono ?_
  rintro e w3 ⟨rfl, h3⟩
  have d3 := h3.slots
  have G3 := Lib.hid h3
  clear d2 G2 h3
  go_wp2
  refine bodyPost_end (results_none rfl _ _ _) rfl ?_
  exact ⟨rfl, G3.out.mono (B' := B + 500000) (by omega)⟩
set_option maxHeartbeats 1000000 in
theorem appended_any (h : FS W fb mb Z B S m w) (hT : u64 m.T) (hM : in8 m.M) (hS : 0 ≤ m.S ∧ m.S ≤ 9223372036854775807) (hB : B ≤ 100000) :
    Calls Try.prog 40 #[.pointer (some ⟨fb, 0, none⟩)] w fun e w' => e = .returned (.tuple #[]) ∧ FS W fb mb Z (B + 36) (appendedF S m).1 (appendedF S m).2 w' := by
  obtain ⟨q1, hq1⟩ : ∃ q : Sf × Ms, q = voteF S m := ⟨_, rfl⟩
  have x4 : q1.2.M = m.M := by rw [hq1, voteF_M]
  have x5 : q1.2.S = m.S := by rw [hq1, voteF_S]
  obtain ⟨q2, hq2⟩ : ∃ q : Sf × Ms, q = iM q1 := ⟨_, rfl⟩
  have z5 : q2.2.S = m.S := by rw [hq2, iM_2, p_M_S, x5]
  have hal : appendedF S m = (iS q2) := by rw [appendedF, hq2, hq1]
  rw [hal]
  have H0 := Lib.hid (vote_any h hT (by omega))
  rw [← hq1] at H0
  have H1 := Lib.hid (fun w2 (h2 : FS W fb mb Z (B + 18) q1.1 q1.2 w2) => h2.iM (by rw [x4]; exact hM) (by omega))
  rw [← hq2] at H1
  have H2 := Lib.hid (fun w2 (h2 : FS W fb mb Z (B + 18 + 9) q2.1 q2.2 w2) => h2.iS (by rw [z5]; exact hS) (by omega))
  have c0 := h.slots
  clear h hB hal
  go_enter Try.func40, Try.ntmps40
  go_wp2_with fail
  refine (H0.out).mono ?_
  rintro e w0 ⟨rfl, h0⟩
  have d0 := h0.slots
  have G0 := Lib.hid h0
  clear c0 h0
  go_wp2_with fail
  refine (H1.out w0 G0.out).mono ?_
  rintro e w1 ⟨rfl, h1⟩
  have d1 := h1.slots
  have G1 := Lib.hid h1
  clear d0 G0 h1
  go_wp2_with fail
  refine (H2.out w1 G1.out).mono ?_
  rintro e w2 ⟨rfl, h2⟩
  have d2 := h2.slots
  have G2 := Lib.hid h2
  clear d1 G1 h2
  go_wp2
  refine bodyPost_end (results_none rfl _ _ _) rfl ?_
  exact ⟨rfl, G2.out.mono (B' := B + 36) (by omega)⟩
set_option maxHeartbeats 1000000 in
theorem pull_any (h : FS W fb mb Z B S m w) (hE : u64 m.l.E) (hLB : in8 m.l.B) (hL : m.l.l.length ≤ 8192) (hn : in8 m.n) (hla : wfG m.la) (hta : wfG m.ta) (hN : in8 m.N) (hrd : S.m.isRd = true → m.es = [] ∧ m.p.cs = []) (hB : B ≤ 100000) :
    Calls Try.prog 41 #[.pointer (some ⟨fb, 0, none⟩)] w fun e w' => e = .returned (.tuple #[]) ∧ FS W fb mb Z (B + 300000) (pullF S m).1 (pullF S m).2 w' := by
  obtain ⟨q1, hq1⟩ : ∃ q : Sf × Ms, q = lineF S m := ⟨_, rfl⟩
  have x1 : q1.2.n = m.n := by rw [hq1, lineF_n]
  have x2 : q1.2.la = m.la := by rw [hq1, lineF_la]
  have x3 : q1.2.ta = m.ta := by rw [hq1, lineF_ta]
  have x4 : q1.2.N = m.N := by rw [hq1, lineF_N]
  obtain ⟨q2, hq2⟩ : ∃ q : Sf × Ms, q = iL q1 := ⟨_, rfl⟩
  have y2 : q2.2.la = m.la := by rw [hq2, iL_2, p_n_la, x2]
  have y3 : q2.2.ta = m.ta := by rw [hq2, iL_2, p_n_ta, x3]
  have y4 : q2.2.N = m.N := by rw [hq2, iL_2, p_n_N, x4]
  obtain ⟨q3, hq3⟩ : ∃ q : Sf × Ms, q = iLa q2 := ⟨_, rfl⟩
  have z3 : q3.2.ta = m.ta := by rw [hq3, iLa_2, p_la_ta, y3]
  have z4 : q3.2.N = m.N := by rw [hq3, iLa_2, p_la_N, y4]
  obtain ⟨q4, hq4⟩ : ∃ q : Sf × Ms, q = iTa q3 := ⟨_, rfl⟩
  have u4 : q4.2.N = m.N := by rw [hq4, iTa_2, p_ta_N, z4]
  have hal : pullF S m = (iN q4) := by rw [pullF, hq4, hq3, hq2, hq1]
  rw [hal]
  have H0 := Lib.hid (line_any h hE hLB hL hrd (by omega))
  rw [← hq1] at H0
  have H1 := Lib.hid (fun w2 (h2 : FS W fb mb Z (B + 200000) q1.1 q1.2 w2) => h2.iL (by rw [x1]; exact hn) (by omega))
  rw [← hq2] at H1
  have H2 := Lib.hid (fun w2 (h2 : FS W fb mb Z (B + 200000 + 9) q2.1 q2.2 w2) => h2.iLa (by rw [y2]; exact hla) (by omega))
  rw [← hq3] at H2
  have H3 := Lib.hid (fun w2 (h2 : FS W fb mb Z (B + 200000 + 9 + 18) q3.1 q3.2 w2) => h2.iTa (by rw [z3]; exact hta) (by omega))
  rw [← hq4] at H3
  have H4 := Lib.hid (fun w2 (h2 : FS W fb mb Z (B + 200000 + 9 + 18 + 18) q4.1 q4.2 w2) => h2.iN (by rw [u4]; exact hN) (by omega))
  have c0 := h.slots
  clear h hB hal
  go_enter Try.func41, Try.ntmps41
  go_wp2_with fail
  refine (H0.out).mono ?_
  rintro e w0 ⟨rfl, h0⟩
  have d0 := h0.slots
  have G0 := Lib.hid h0
  clear c0 h0
  go_wp2_with fail
  refine (H1.out w0 G0.out).mono ?_
  rintro e w1 ⟨rfl, h1⟩
  have d1 := h1.slots
  have G1 := Lib.hid h1
  clear d0 G0 h1
  go_wp2_with fail
  refine (H2.out w1 G1.out).mono ?_
  rintro e w2 ⟨rfl, h2⟩
  have d2 := h2.slots
  have G2 := Lib.hid h2
  clear d1 G1 h2
  go_wp2_with fail
  refine (H3.out w2 G2.out).mono ?_
  rintro e w3 ⟨rfl, h3⟩
  have d3 := h3.slots
  have G3 := Lib.hid h3
  clear d2 G2 h3
  go_wp2_with fail
  refine (H4.out w3 G3.out).mono ?_
  rintro e w4 ⟨rfl, h4⟩
  have d4 := h4.slots
  have G4 := Lib.hid h4
  clear d3 G3 h4
  go_wp2
  refine bodyPost_end (results_none rfl _ _ _) rfl ?_
  exact ⟨rfl, G4.out.mono (B' := B + 300000) (by omega)⟩
set_option maxHeartbeats 1000000 in
theorem parted_any (h : FS W fb mb Z B S m w) (hE : u64 m.l.E) (hLB : in8 m.l.B) (hL : m.l.l.length ≤ 8192) (hrd : S.m.isRd = true → m.es = [] ∧ m.p.cs = []) (hB : B ≤ 100000) :
    Calls Try.prog 42 #[.pointer (some ⟨fb, 0, none⟩)] w fun e w' => e = .returned (.tuple #[]) ∧ FS W fb mb Z (B + 300000) (partedF S m).1 (partedF S m).2 w' := by
  obtain ⟨q1, hq1⟩ : ∃ q : Sf × Ms, q = lineF S m := ⟨_, rfl⟩
  have hal : partedF S m = (partF q1.1 q1.2) := by rw [partedF, hq1]
  rw [hal]
  have H0 := Lib.hid (line_any h hE hLB hL hrd (by omega))
  rw [← hq1] at H0
  have H1 := Lib.hid (fun w2 (h2 : FS W fb mb Z (B + 200000) q1.1 q1.2 w2) => part_any h2 (by omega))
  have c0 := h.slots
  clear h hB hal
  go_enter Try.func42, Try.ntmps42
  go_wp2_with fail
  refine (H0.out).mono ?_
  rintro e w0 ⟨rfl, h0⟩
  have d0 := h0.slots
  have G0 := Lib.hid h0
  clear c0 h0
  go_wp2_with fail
  refine (H1.out w0 G0.out).mono ?_
  rintro e w1 ⟨rfl, h1⟩
  have d1 := h1.slots
  have G1 := Lib.hid h1
  clear d0 G0 h1
  go_wp2
  refine bodyPost_end (results_none rfl _ _ _) rfl ?_
  exact ⟨rfl, G1.out.mono (B' := B + 300000) (by omega)⟩
end
end Go.Proofs.Ytikimmhkfjaijaa
