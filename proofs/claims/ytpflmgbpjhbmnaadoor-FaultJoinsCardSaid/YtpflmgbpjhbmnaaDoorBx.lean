-- WRITTEN BY A PROGRAM: pp.sh, over print.py
import Derived.Test.YtpflmgbpjhbmnaaDoorStr
import Derived.Test.YtpflmgbpjhbmnaaDoorBx0
import Derived.Test.YtpflmgbpjhbmnaaDoorBx1
import Derived.Test.YtpflmgbpjhbmnaaDoorBx2
import Derived.Test.YtpflmgbpjhbmnaaDoorBx3
import Derived.Test.YtpflmgbpjhbmnaaDoorBx4
namespace Go.Proofs.YtpflmgbpjhbmnaaDoor.B
open Go.RowKit Go.Proofs.YtpflmgbpjhbmnaaDoorW.PrintWords Go.Proofs.YtpflmgbpjhbmnaaDoorW.PrintLast Go.Proofs.YtpflmgbpjhbmnaaDoorW.PrintMore
attribute [local go_sem] Go.Proofs.YtpflmgbpjhbmnaaDoor.str_gtr max2_int min2_int max_two min_two max_three min_three max_four min_four   -- for this text's walks alone
set_option linter.unusedVariables false
set_option linter.unusedSimpArgs false

end Go.Proofs.YtpflmgbpjhbmnaaDoor.B
