/- JoinGroup: both sides. -/
import Derived.Test.YthjklcodgcojbaaDoorWJn
import Derived.Test.YthjklcodgcojbaaDoorWJn2
